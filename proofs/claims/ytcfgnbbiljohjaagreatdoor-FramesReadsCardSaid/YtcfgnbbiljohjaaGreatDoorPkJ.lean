/- Texts Parse, Works, Lone, one behind the other. Conditions: as each says. -/
import Derived.Test.YtcfgnbbiljohjaaGreatDoorPkI
section
/- frames.Parse: what a body says. Conditions: unicode/utf8's tables read as they are laid; the bytes lie as 'Bytes' says. -/
set_option linter.unusedVariables false
set_option linter.unusedSimpArgs false
set_option maxHeartbeats 4000000
set_option maxRecDepth 10000
namespace Go.Proofs.YtcfgnbbiljohjaaGreatDoor
open Go.RowKit
theorem results_cell2 {fn : Func} {r q : Nat} {ty tz : TypeId} (hr : fn.results = #[.cell r ty, .cell q tz]) (t t' : Array Value) (h : t.getD r undef = t'.getD r undef) (h2 : t.getD q undef = t'.getD q undef) : results fn t = results fn t' := by
  unfold results
  rw [hr]
  simp only [List.mapM_toArray, List.mapM_cons, List.mapM_nil, h, h2]
theorem put_results2 {P : Program} {fn : Func} (r q : Nat) (hr : ∀ t t' : Array Value, t.getD r undef = t'.getD r undef → t.getD q undef = t'.getD q undef → results fn t = results fn t') {l : List Oper} (hl : (l.all fun o => o.dst != some r) = true) (hl2 : (l.all fun o => o.dst != some q) = true) {R : Ending → World → Prop} :
    ∀ c a w (o : Oper) v, o ∈ l → bodyPostD P fn R (.panic c) (Act.put a o.dst v) w → bodyPostD P fn R (.panic c) a w := by
  intro c a w o v ho h
  have hne := List.all_eq_true.1 hl o ho
  have hne2 := List.all_eq_true.1 hl2 o ho
  cases hd : o.dst with
  | none => rw [hd] at h; exact h
  | some d =>
    rw [hd] at h hne hne2
    have hdr : d ≠ r := by simpa using hne
    have hdq : d ≠ q := by simpa using hne2
    have h' : Leaves P fn (a.tmps.set! d v) R a.defers (.panicking c) w := h
    rw [leaves_congr (t' := a.tmps) (hr _ _ (by simp [Array.getD_eq_getD_getElem?, Array.getElem?_setIfInBounds, hdr]) (by simp [Array.getD_eq_getD_getElem?, Array.getElem?_setIfInBounds, hdq]))] at h'
    exact h'
theorem assert_errno (w : World) (n : Int) : (Instr.typeAssert (.iface 31 (.int .i64 n)) 20 31 false).run Tryz.prog w = .ok (.int .i64 n) w := by kernel_rfl
theorem parse1_none (w : World) (ks ke : Nat) :
    CallsD Tryz.prog 36 #[.pointer (some ⟨ks, 0, none⟩), .pointer (some ⟨ke, 0, none⟩)] .returning w fun e u' w' => e = .returned (.tuple #[]) ∧ u' = .returning ∧ w' = w := by
  refine callsD_of_wpS Tryz.func36 rfl fun c₀ cs hu => ?_
  simp only [Tryz.ntmps36, List.size_toArray, List.length_cons, List.length_nil, Nat.reduceAdd, Nat.reduceSub, Array.replicate_succ, Array.replicate_zero, List.push_toArray, List.append_toArray, List.nil_append, List.cons_append]
  apply wpS_seq
  apply wpS_region
  simp [wpOpsS, go_sem, recoverD, hu, Exit.thenS]
  refine wpS_of_wp ?_
  go_wp2_with fail
  cases c₀
  simp_all [bodyPostS, results, Tryz.results36]
theorem parse1_said {A : Nat → Prop} (w : World) (ks ke : Nat) (s : Sd) (z : Int) (older : List PanicEntry) (h : SepL [cellsR ks 27 s.cells, cellsR ke 31 [.int .i64 z]] A w) :
    CallsD Tryz.prog 36 #[.pointer (some ⟨ks, 0, none⟩), .pointer (some ⟨ke, 0, none⟩)] (.panicking ({ v := .iface 31 (.int .i64 340), recovered := false } :: older)) w fun e u' w' =>
      e = .returned (.tuple #[]) ∧ u' = .panicking ({ v := .iface 31 (.int .i64 340), recovered := true } :: older) ∧ Upd A w w' (listR [cellsR ks 27 (Sd.of 0).cells, cellsR ke 31 [.int .i64 340]]) := by
  have HM := Lib.hid (Mem.start (F := A) (r := listR [cellsR ks 27 s.cells, cellsR ke 31 [.int .i64 z]]) h).unlist
  simp only [List.cons_append, List.nil_append] at HM
  unfold Sd.cells at HM
  clear h
  refine callsD_of_wpS Tryz.func36 rfl fun c₀ cs hu => ?_
  simp only [Tryz.ntmps36, List.size_toArray, List.length_cons, List.length_nil, Nat.reduceAdd, Nat.reduceSub, Array.replicate_succ, Array.replicate_zero, List.push_toArray, List.append_toArray, List.nil_append, List.cons_append]
  apply wpS_seq
  apply wpS_region
  simp [wpOpsS, go_sem, recoverD, hu, Exit.thenS]
  refine wpS_of_wp ?_
  have ha := fun w => assert_errno w 340
  have fM := HM.out.fa
  go_wp2_with fail
  all_goals clear fM
  have fM := HM.out.fa
  have hE0 : Keeps NoB w w.drew := (Keeps.refl _ _).drew
  refine wp_region_plan [(0, 0), (0, 1), (0, 2)] [] [3, 4] [3, 4] (ClsE w) (by kernel_rfl) (by kernel_rfl) (by kernel_rfl) rfl rfl (ClsE.of hE0) (fun _ _ _ d _ h => by cases d <;> exact h) ?_; simp only [planL, nL]
  refine pR (v := ?_) rfl (fun W => ?_) ?_; rotate_left; (go_simp <;> with_reducible rfl); simp only [nP]
  refine pM _ rfl rfl ?_; simp only [nP, nE]
  refine pR (v := ?_) rfl (fun W => ?_) ?_; rotate_left; (go_simp <;> with_reducible rfl); simp only [nP]
  refine plan_nil ?_; simp only [tailL, List.filterMap_cons, List.filterMap_nil, nL]; change wpList _ _ _ (_ :: _ :: []) _ _
  clear hE0
  go_wp2_with fail
  clear fM
  refine ⟨rfl, _, rfl, .tuple #[], ?_, rfl, rfl, ?_⟩
  · simp [results, Tryz.results36]
  refine nxt HM fun w1 M => ?_
  clear HM; have HM := M; clear M
  have hm : Mem A w w1 [cellsR ke 31 [.int .i64 340], cellsR ks 27 (Sd.of 0).cells] := HM.out
  exact (Mem.list' (L1 := [cellsR ks 27 (Sd.of 0).cells, cellsR ke 31 [.int .i64 340]]) (L := []) (Mem.sub hm (by repeat first | exact Sub.nil | refine Sub.cons (by with_reducible repeat first | exact ph | apply pt) ?_))).upd
theorem Part.take_ok (p : Part) (r : Rdr) (s : Sd) (h : OkS s) : OkS (p.take r s).2 ∧ (p.take r s).2.kind = s.kind := by
  obtain ⟨h1, h2, h3, h4⟩ := h
  cases p <;> unfold Part.take
  · exact ⟨⟨h1, h2, h3, h4⟩, rfl⟩
  · exact ⟨⟨h1, h2, h3, h4⟩, rfl⟩
  · exact ⟨⟨h1, h2, h3, h4⟩, rfl⟩
  · exact ⟨⟨h1, h2, h3, h4⟩, rfl⟩
  · have := r.txt_lt 200 (by decide)
    exact ⟨⟨h1, by dsimp only; omega, h3, h4⟩, rfl⟩
  · have := r.txt_lt 200 (by decide)
    exact ⟨⟨h1, h2, by dsimp only; omega, h4⟩, rfl⟩
  · dsimp only
    have hk := r.num_lt 4 (by decide)
    have ht := (((r.num 4).1.num 15).1.num 2147483647).1.txt_lt 200 (by decide)
    have hI : I64 ((r.num 4).2.1 : Int) := by unfold I64; constructor <;> omega
    split
    · exact ⟨⟨hI, h2, h3, by dsimp only; omega⟩, rfl⟩
    · exact ⟨⟨hI, h2, h3, h4⟩, rfl⟩
theorem takeAll_snoc (ps : List Part) (r : Rdr) (s : Sd) (j : Nat) (h : j < ps.length) : takeAll (ps.take (j + 1)) r s = ps[j].take (takeAll (ps.take j) r s).1 (takeAll (ps.take j) r s).2 := by
  unfold takeAll
  rw [List.take_succ_eq_append_getElem h, List.foldl_append]; rfl
theorem takeAll_app (ps qs : List Part) (r : Rdr) (s : Sd) : takeAll (ps ++ qs) r s = takeAll qs (takeAll ps r s).1 (takeAll ps r s).2 := by
  unfold takeAll
  rw [List.foldl_append]
theorem takeAll_bad (ps : List Part) (r : Rdr) (s : Sd) (j : Nat) (h : (takeAll (ps.take j) r s).1.e ≠ 0) : (takeAll ps r s).1.e ≠ 0 := by
  have := takeAll_app (ps.take j) (ps.drop j) r s
  rw [List.take_append_drop] at this
  rw [this]
  exact takeAll_sticky _ _ h
theorem parse_any {A : Nat → Prop} (W w : World) (hT : Tabs W) (hE : Ext W w) (v : Value) (l : List UInt8) (h : Bytes w A v l) (hl : l.length ≤ 70368744177664) :
    Calls Tryz.prog 16 #[v] w fun e w' => e = .returned (.tuple #[(parseL l).1.v, .int .i64 (parseL l).2]) ∧ Ext w w' := by
  have HM := Lib.hid (Mem.start0 w)
  have HE := Lib.hid hE
  have HB := Lib.hid h
  have HLL := Lib.hid hl
  have hmf : ∀ (fn : Fn) (first cap : Array Value) (w : World), (Instr.makeFunc fn first cap).run Tryz.prog w = .ok (.func fn first cap) w := fun _ _ _ _ => rfl
  obtain ⟨P, hP⟩ : ∃ P, parseL l = P := ⟨_, rfl⟩
  rw [hP]
  have HPL := Lib.hid hP
  clear hE h hl hP
  go_enter_defers Tryz.func16, Tryz.ntmps16
  have fM := HM.out.fa
  go_wp2_with fail
  all_goals clear fM
  refine nxt HM fun w1 M => ?_
  clear HM; have HM := M; clear M
  obtain ⟨ks, hks⟩ : ∃ k, w.heap.size = k := ⟨_, rfl⟩
  obtain ⟨ke, hke⟩ : ∃ k, w.heap.size + 1 = k := ⟨_, rfl⟩
  rw [hke, hks] at HM ⊢
  clear hke hks
  have hm0 : Mem NoB w w1 [cellsR ke 31 [.int .i64 0], cellsR ks 27 (Sd.of 0).cells] := HM.out
  replace HM := Lib.hid hm0
  clear hm0
  refine (read_any w1 v l (HB.out.keeps HM.out.extTo fun _ _ => noB _) HLL.out).mono ?_
  rintro e w2 ⟨b, rfl, hU⟩
  obtain ⟨F2, u1, u2, u3⟩ := hU
  replace HM := Lib.hid (HM.out.new (r := readerR b ⟨l, 0⟩) (G := F2) u2 u1 (fun k hk => (u3 k hk).elim (fun h => (noB _ h).elim) id))
  clear u1 u2 u3
  clear F2
  have fM := HM.out.fa
  go_wp2_with fail
  all_goals clear fM
  refine nxt HM fun w3 M => ?_
  clear HM; have HM := M; clear M
  obtain ⟨kq, hkq⟩ : ∃ k, w2.heap.size = k := ⟨_, rfl⟩
  rw [hkq] at HM ⊢
  clear hkq
  have hno := (⟨l, 0⟩ : Rdr).num_e' 12 (by decide)
  have hnl := (⟨l, 0⟩ : Rdr).num_len 12
  have hnt := (⟨l, 0⟩ : Rdr).num_lt 12 (by decide)
  obtain ⟨C, hC, hS⟩ := (HM.out.pick (r := readerR b ⟨l, 0⟩) (by with_reducible repeat first | exact ph | apply pt)).step
  refine (fnum_any w3 b ⟨l, 0⟩ 12 (by decide) HLL.out hC).mono ?_
  rintro e w4 ⟨rfl, hU⟩
  replace HM := Lib.hid (hS _ _ hU)
  clear hU hS hC C
  have HPQ := Lib.hid (show P = (let x := takeAll ((partsOf ((⟨l, 0⟩ : Rdr).num 12).2.1).getD []) ((⟨l, 0⟩ : Rdr).num 12).1 (Sd.of ((⟨l, 0⟩ : Rdr).num 12).2.1)
    if ((⟨l, 0⟩ : Rdr).num 12).2.2 = 0 ∧ x.1.e = 0 ∧ x.1.b = [] ∧ sdB x.2 = true then (x.2, 0) else (Sd.of 0, 340)) from HPL.out.symm)
  obtain ⟨⟨r1, n, no⟩, hq⟩ : ∃ q, (⟨l, 0⟩ : Rdr).num 12 = q := ⟨_, rfl⟩
  rw [hq] at HM HPQ hno hnl hnt ⊢
  dsimp only at HM HPQ hno hnl hnt ⊢
  subst hno
  clear hq HPL
  have HNL := Lib.hid (show r1.b.length ≤ 70368744177664 from Nat.le_trans hnl HLL.out)
  clear hnl
  by_cases he : r1.e = 0
  case neg =>
    have HQ := Lib.hid (show P = (Sd.of 0, 340) by rw [HPQ.out, if_neg (fun h => he h.1)])
    rw [if_neg he]
    unfold saidE
    clear he HPQ hnt
    replace HM := Lib.hid (Mem.list' (L1 := [cellsR ks 27 (Sd.of 0).cells, cellsR ke 31 [.int .i64 0]]) (L := [readerR b r1]) (Mem.sub HM.out (by repeat first | exact Sub.nil | refine Sub.cons (by with_reducible repeat first | exact ph | apply pt) ?_)))
    obtain ⟨Bc, hBc, hSc⟩ := HM.out.step
    refine leaves_cons (f := 36) (args := #[.pointer (some ⟨ks, 0, none⟩), .pointer (some ⟨ke, 0, none⟩)]) (by intro h; cases h) (enters_of Tryz.func36 (by kernel_rfl) rfl _ _) ?_
    refine (parse1_said _ ks ke _ 0 [] hBc).mono ?_
    rintro e u wq ⟨rfl, rfl, hUc⟩
    replace HM := Lib.hid (hSc _ _ hUc).unlist
    simp only [List.cons_append, List.nil_append] at HM
    show Leaves _ _ _ _ [] .returning _
    clear hUc hSc hBc Bc
    obtain ⟨Ahb, hb⟩ := HM.out.get (r := cellsR ks 27 (Sd.of 0).cells) (by with_reducible repeat first | exact ph | apply pt)
    obtain ⟨Ahe, he⟩ := HM.out.get (r := cellsR ke 31 [.int .i64 340]) (by with_reducible repeat first | exact ph | apply pt)
    have hb1 : Box wq ks 27 [.int .i64 0, .int .i64 0, .int .i64 0, .int .i64 0, .bool false, .string ⟨#[]⟩, .string ⟨#[]⟩, .int .i64 0, .int .i64 0, .int .i64 0, .string ⟨#[]⟩] := hb.2
    have hc := hb1.reads.1
    have hd := he.2.reads.1
    refine ⟨.tuple #[.agg #[.int .i64 0, .int .i64 0, .int .i64 0, .int .i64 0, .bool false, .string ⟨#[]⟩, .string ⟨#[]⟩, .int .i64 0, .int .i64 0, .int .i64 0, .string ⟨#[]⟩], .int .i64 340], ?_, ?_, HM.out.extTo⟩
    · simp [results, Tryz.results16, go_sem, hc, hd]
    · rw [HQ.out]; rfl
  rw [if_pos he]
  have HE1 := Lib.hid he
  clear he
  have fM := HM.out.fa
  go_wp2_with fail
  all_goals clear fM
  refine nxt HM fun w5 M => ?_
  clear HM; have HM := M; clear M
  have hni : I64 (n : Int) := by unfold I64; constructor <;> omega
  have HNI := Lib.hid hni
  have HNT := Lib.hid hnt
  clear hni hnt
  have fM := HM.out.fa
  have hE0 : Keeps NoB w5 w5.drew := (Keeps.refl _ _).drew
  refine wp_region_planD [(0, 1), (1, 2), (0, 5), (2, 0)] [2] [0, 3, 4] [3, 4] (ClsE w5) (by kernel_rfl) (by kernel_rfl) (by kernel_rfl) rfl rfl (ClsE.of hE0) (put_results2 2 3 (results_cell2 Tryz.results16) (by kernel_rfl) (by kernel_rfl)) ?_; simp only [planL, nL]
  refine pR (v := ?_) rfl (fun W => ?_) ?_; rotate_left; (go_simp <;> with_reducible rfl); simp only [nP]
  refine pL (v := ?_) rfl (fun W => ?_) ?_; rotate_left; (go_simp <;> with_reducible rfl); simp only [nP]
  refine pM _ rfl rfl ?_; simp only [nP, Act.eval]
  refine plan_does rfl (fun K hK => ?_)
  go_wp2_with fail
  refine (kinds_any _).mono ?_
  rintro e w6 ⟨m, rfl, hU⟩
  obtain ⟨F2, u1, u2, u3⟩ := hU
  have hE2 := hE0.ext u2
  obtain ⟨pv, hlk, hpv⟩ := kinds_look u1 (n : Int) HNI.out false
  replace HM := Lib.hid (HM.out.new (r := partsR pv ((partsOf (n : Int)).getD [])) (G := F2) hE2 hpv (fun k hk => (u3 k hk).elim (fun h => (noB _ h).elim) id))
  simp only [Bool.false_eq_true, if_false] at hlk
  clear u1 u2 u3 hpv
  clear F2
  refine hK _ _ ⟨ClsE.of (by assumption), ?_⟩; clear hK K; try simp only [nP]
  refine plan_nil ?_; simp only [tailL, List.filterMap_cons, List.filterMap_nil, nL]; change wpList _ _ _ (_ :: _ :: []) _ _
  clear fM
  have hpl := partsOf_len (n : Int)
  obtain ⟨ps, hps⟩ : ∃ ps, (partsOf (n : Int)).getD [] = ps := ⟨_, rfl⟩
  rw [hps] at HM HPQ hpl
  clear hps
  obtain ⟨Ahp, hp⟩ := HM.out.get (r := partsR pv ps) (by with_reducible repeat first | exact ph | apply pt)
  obtain ⟨a, rfl⟩ := parts_len hp
  clear hE0 hE2 hp
  have fM := HM.out.fa
  go_wp2_with fail
  all_goals clear fM
  clear hlk
  obtain ⟨s0, hs⟩ : ∃ s, Sd.of (n : Int) = s := ⟨_, rfl⟩
  have hsk : s0.kind = n := by rw [← hs]; rfl
  have hso : OkS s0 := by rw [← hs]; exact ⟨i64_lit 0 rfl, Nat.zero_le _, Nat.zero_le _, Nat.zero_le _⟩
  have hm0 : Mem NoB w w6 [partsR (.slice a ps.length ps.length) ps, cellsR ks 27 (Sd.of (n : Int)).cells, readerR b r1, cellsR kq 84 [.pointer (some ⟨b, 0, none⟩)], cellsR ke 31 [.int .i64 0]] := HM.out
  rw [hs] at hm0 HPQ
  replace HM := Lib.hid hm0
  clear hm0 hs
  go_loopw [19] (fun i wr => ∃ j : Nat, j ≤ ps.length ∧ i = .int .i64 j ∧ ∃ rj sj, Hid (takeAll (ps.take j) r1 s0 = (rj, sj) ∧ OkS sj ∧ sj.kind = n) ∧ Hid (rj.e = 0) ∧ Hid (rj.b.length ≤ 70368744177664) ∧ Hid (Mem NoB w wr [partsR (.slice a ps.length ps.length) ps, cellsR ks 27 sj.cells, readerR b rj, cellsR kq 84 [.pointer (some ⟨b, 0, none⟩)], cellsR ke 31 [.int .i64 0]])) (fun i _ => ps.length - (intOf i).toNat)
  case atStart => exact ⟨0, Nat.zero_le _, rfl, r1, s0, Lib.hid ⟨rfl, hso, hsk⟩, HE1, HNL, HM⟩
  case round =>
    clear HM
    obtain ⟨j, hj, rfl, rj, sj, HT, HEJ, HLJ, HM⟩ := hrel
    by_cases hlt : j < ps.length
    · have g1 : (j : Int) < ps.length := by omega
      have g2 : ¬ (j : Int) < 0 := by omega
      obtain ⟨Ahp, hp⟩ := HM.out.get (r := partsR (.slice a ps.length ps.length) ps) (by with_reducible repeat first | exact ph | apply pt)
      obtain ⟨k, -, hat⟩ := parts_at' hp
      obtain ⟨q, rfl, hq, c0, c1, c2, c3⟩ := hat j hlt
      have HF := Lib.hid (takeAll_snoc ps r1 s0 j hlt)
      obtain ⟨p, hpj⟩ : ∃ p, ps[j] = p := ⟨_, rfl⟩
      rw [hpj] at c0 c1 c2 c3 HF
      rw [HT.out.1] at HF
      dsimp only at HF
      have hen := take_enters p
      clear hp hat hpj
      have fM := HM.out.fa
      go_wp2_with fail
      all_goals clear fM
      refine nxt HM fun w8 M => ?_
      clear HM; have HM := M; clear M
      clear c0 c1 c2 c3 hen
      obtain ⟨C, hC, hS⟩ := (Mem.list' (L1 := [readerR b rj, cellsR ks 27 sj.cells]) (L := [partsR (.slice (some ⟨q, 0, none⟩) ps.length ps.length) ps, cellsR kq 84 [.pointer (some ⟨b, 0, none⟩)], cellsR ke 31 [.int .i64 0]]) (Mem.sub HM.out (by repeat first | exact Sub.nil | refine Sub.cons (by with_reducible repeat first | exact ph | apply pt) ?_))).step
      refine (ptake_any w8 b ks p rj sj HLJ.out hC).mono ?_
      rintro e w9 ⟨rfl, s', hs', hU⟩
      replace HM := Lib.hid (hS _ _ hU).unlist
      simp only [List.cons_append, List.nil_append] at HM
      clear hU hS hC C
      by_cases he : (p.take rj sj).1.e = 0
      case neg =>
        have HQ := Lib.hid (show P = (Sd.of 0, 340) by rw [HPQ.out, if_neg (fun h => absurd h.2.1 (takeAll_bad ps r1 s0 (j + 1) (by rw [HF.out]; exact he)))])
        rw [if_neg he]
        unfold saidE
        clear he hs'
        replace HM := Lib.hid (Mem.list' (L1 := [cellsR ks 27 s'.cells, cellsR ke 31 [.int .i64 0]]) (L := []) (Mem.sub HM.out (by repeat first | exact Sub.nil | refine Sub.cons (by with_reducible repeat first | exact ph | apply pt) ?_)))
        obtain ⟨Bc, hBc, hSc⟩ := HM.out.step
        refine leaves_cons (f := 36) (args := #[.pointer (some ⟨ks, 0, none⟩), .pointer (some ⟨ke, 0, none⟩)]) (by intro h; cases h) (enters_of Tryz.func36 (by kernel_rfl) rfl _ _) ?_
        refine (parse1_said _ ks ke _ 0 [] hBc).mono ?_
        rintro e u wq ⟨rfl, rfl, hUc⟩
        replace HM := Lib.hid (hSc _ _ hUc).unlist
        simp only [List.cons_append, List.nil_append] at HM
        show Leaves _ _ _ _ [] .returning _
        clear hUc hSc hBc Bc
        obtain ⟨Ahb, hb⟩ := HM.out.get (r := cellsR ks 27 (Sd.of 0).cells) (by with_reducible repeat first | exact ph | apply pt)
        obtain ⟨Ahe, he⟩ := HM.out.get (r := cellsR ke 31 [.int .i64 340]) (by with_reducible repeat first | exact ph | apply pt)
        have hb1 : Box wq ks 27 [.int .i64 0, .int .i64 0, .int .i64 0, .int .i64 0, .bool false, .string ⟨#[]⟩, .string ⟨#[]⟩, .int .i64 0, .int .i64 0, .int .i64 0, .string ⟨#[]⟩] := hb.2
        have hc := hb1.reads.1
        have hd := he.2.reads.1
        refine ⟨.tuple #[.agg #[.int .i64 0, .int .i64 0, .int .i64 0, .int .i64 0, .bool false, .string ⟨#[]⟩, .string ⟨#[]⟩, .int .i64 0, .int .i64 0, .int .i64 0, .string ⟨#[]⟩], .int .i64 340], ?_, ?_, HM.out.extTo⟩
        · simp [results, Tryz.results16, go_sem, hc, hd]
        · rw [HQ.out]; rfl
      obtain rfl := hs' he
      rw [if_pos he]
      have HE2 := Lib.hid he
      clear he hs'
      go_wp2_with fail
      go_roundw
      case rel => exact ⟨j + 1, by omega, by go_num, (p.take rj sj).1, (p.take rj sj).2, Lib.hid ⟨HF.out, (p.take_ok rj sj HT.out.2.1).1, (p.take_ok rj sj HT.out.2.1).2.trans HT.out.2.2⟩, HE2, Lib.hid (Nat.le_trans (p.take_len rj sj) HLJ.out), Lib.hid (Mem.sub HM.out (by repeat first | exact Sub.nil | refine Sub.cons (by with_reducible repeat first | exact ph | apply pt) ?_))⟩
      case measure => simp [intOf]; omega
    · obtain rfl : j = ps.length := by omega
      rw [List.take_length] at HT
      have fM := HM.out.fa
      go_wp2_with fail
      all_goals clear fM
      refine nxt HM fun w8 M => ?_
      clear HM; have HM := M; clear M
      have HK := Lib.hid (show I64 sj.kind by rw [HT.out.2.2]; exact HNI.out)
      obtain ⟨C, hC, hS⟩ := (HM.out.pick (r := readerR b rj) (by with_reducible repeat first | exact ph | apply pt)).step
      refine (rend_any w8 b rj HLJ.out hC).mono ?_
      rintro e w9 ⟨rfl, hU⟩
      replace HM := Lib.hid (hS _ _ hU)
      clear hU hS hC C
      by_cases hb : rj.b = []
      case neg =>
        have HQ := Lib.hid (show P = (Sd.of 0, 340) by rw [HPQ.out, HT.out.1, if_neg (fun h => hb h.2.2.1)])
        have hf : rj.fin = (Rdr.bad, 120) := by unfold Rdr.fin; rw [if_neg (fun h => h HEJ.out), if_neg hb]
        rw [hf] at HM ⊢
        dsimp only at HM ⊢
        clear hf hb
        have fM := HM.out.fa
        go_wp2_with fail
        all_goals clear fM
        refine (fmust_any _ _).mono ?_
        rintro e w' ⟨rfl, hwq⟩
        rw [hwq]
        clear hwq w'
        simp only [Bool.false_eq_true, if_false]
        unfold saidE
        replace HM := Lib.hid (Mem.list' (L1 := [cellsR ks 27 sj.cells, cellsR ke 31 [.int .i64 0]]) (L := []) (Mem.sub HM.out (by repeat first | exact Sub.nil | refine Sub.cons (by with_reducible repeat first | exact ph | apply pt) ?_)))
        obtain ⟨Bc, hBc, hSc⟩ := HM.out.step
        refine leaves_cons (f := 36) (args := #[.pointer (some ⟨ks, 0, none⟩), .pointer (some ⟨ke, 0, none⟩)]) (by intro h; cases h) (enters_of Tryz.func36 (by kernel_rfl) rfl _ _) ?_
        refine (parse1_said _ ks ke _ 0 [] hBc).mono ?_
        rintro e u wq ⟨rfl, rfl, hUc⟩
        replace HM := Lib.hid (hSc _ _ hUc).unlist
        simp only [List.cons_append, List.nil_append] at HM
        show Leaves _ _ _ _ [] .returning _
        clear hUc hSc hBc Bc
        obtain ⟨Ahb, hb⟩ := HM.out.get (r := cellsR ks 27 (Sd.of 0).cells) (by with_reducible repeat first | exact ph | apply pt)
        obtain ⟨Ahe, he⟩ := HM.out.get (r := cellsR ke 31 [.int .i64 340]) (by with_reducible repeat first | exact ph | apply pt)
        have hb1 : Box wq ks 27 [.int .i64 0, .int .i64 0, .int .i64 0, .int .i64 0, .bool false, .string ⟨#[]⟩, .string ⟨#[]⟩, .int .i64 0, .int .i64 0, .int .i64 0, .string ⟨#[]⟩] := hb.2
        have hc := hb1.reads.1
        have hd := he.2.reads.1
        refine ⟨.tuple #[.agg #[.int .i64 0, .int .i64 0, .int .i64 0, .int .i64 0, .bool false, .string ⟨#[]⟩, .string ⟨#[]⟩, .int .i64 0, .int .i64 0, .int .i64 0, .string ⟨#[]⟩], .int .i64 340], ?_, ?_, HM.out.extTo⟩
        · simp [results, Tryz.results16, go_sem, hc, hd]
        · rw [HQ.out]; rfl
      have HBE := Lib.hid hb
      have hf : rj.fin = (rj, 0) := by unfold Rdr.fin; rw [if_neg (fun h => h HEJ.out), if_pos hb]
      rw [hf] at HM ⊢
      dsimp only at HM ⊢
      clear hf hb
      have fM := HM.out.fa
      go_wp2_with fail
      all_goals clear fM
      refine (check_any W w9 hT (HE.out.ext HM.out.extTo) sj HT.out.2.1 HK.out).mono ?_
      rintro e w10 ⟨rfl, hE2⟩
      replace HM := Lib.hid (HM.out.ext hE2)
      clear hE2
      unfold chkI
      by_cases hsb : sdB sj = true
      case neg =>
        have HQ := Lib.hid (show P = (Sd.of 0, 340) by rw [HPQ.out, HT.out.1, if_neg (fun h => hsb h.2.2.2)])
        rw [if_neg hsb]
        clear hsb
        go_wp2_with fail
        refine (fmust_any _ _).mono ?_
        rintro e w' ⟨rfl, hwq⟩
        rw [hwq]
        clear hwq w'
        simp only [Bool.false_eq_true, if_false]
        unfold saidE
        replace HM := Lib.hid (Mem.list' (L1 := [cellsR ks 27 sj.cells, cellsR ke 31 [.int .i64 0]]) (L := []) (Mem.sub HM.out (by repeat first | exact Sub.nil | refine Sub.cons (by with_reducible repeat first | exact ph | apply pt) ?_)))
        obtain ⟨Bc, hBc, hSc⟩ := HM.out.step
        refine leaves_cons (f := 36) (args := #[.pointer (some ⟨ks, 0, none⟩), .pointer (some ⟨ke, 0, none⟩)]) (by intro h; cases h) (enters_of Tryz.func36 (by kernel_rfl) rfl _ _) ?_
        refine (parse1_said _ ks ke _ 0 [] hBc).mono ?_
        rintro e u wq ⟨rfl, rfl, hUc⟩
        replace HM := Lib.hid (hSc _ _ hUc).unlist
        simp only [List.cons_append, List.nil_append] at HM
        show Leaves _ _ _ _ [] .returning _
        clear hUc hSc hBc Bc
        obtain ⟨Ahb, hb⟩ := HM.out.get (r := cellsR ks 27 (Sd.of 0).cells) (by with_reducible repeat first | exact ph | apply pt)
        obtain ⟨Ahe, he⟩ := HM.out.get (r := cellsR ke 31 [.int .i64 340]) (by with_reducible repeat first | exact ph | apply pt)
        have hb1 : Box wq ks 27 [.int .i64 0, .int .i64 0, .int .i64 0, .int .i64 0, .bool false, .string ⟨#[]⟩, .string ⟨#[]⟩, .int .i64 0, .int .i64 0, .int .i64 0, .string ⟨#[]⟩] := hb.2
        have hc := hb1.reads.1
        have hd := he.2.reads.1
        refine ⟨.tuple #[.agg #[.int .i64 0, .int .i64 0, .int .i64 0, .int .i64 0, .bool false, .string ⟨#[]⟩, .string ⟨#[]⟩, .int .i64 0, .int .i64 0, .int .i64 0, .string ⟨#[]⟩], .int .i64 340], ?_, ?_, HM.out.extTo⟩
        · simp [results, Tryz.results16, go_sem, hc, hd]
        · rw [HQ.out]; rfl
      have HQ := Lib.hid (show P = (sj, 0) by rw [HPQ.out, HT.out.1, if_pos ⟨HE1.out, HEJ.out, HBE.out, hsb⟩])
      rw [if_pos hsb]
      clear hsb
      go_wp2_with fail
      refine (fmust_any _ _).mono ?_
      rintro e w' ⟨rfl, hwq⟩
      rw [hwq]
      clear hwq w'
      simp only [if_true]
      have fM := HM.out.fa
      go_wp2_with fail
      all_goals clear fM
      refine nxt HM fun w11 M => ?_
      clear HM; have HM := M; clear M
      obtain ⟨Ahe, he⟩ := HM.out.get (r := cellsR ke 31 [.int .i64 0]) (by with_reducible repeat first | exact ph | apply pt)
      obtain ⟨Ahb, hb⟩ := HM.out.get (r := cellsR ks 27 [.int .i64 sj.kind, .int .i64 sj.member, .int .i64 sj.number, .int .i64 sj.index, .bool sj.is, .string (bs sj.text), .string (bs sj.token), .int .i64 sj.e.kind, .int .i64 sj.e.member, .int .i64 sj.e.number, .string (bs sj.e.text)]) (by with_reducible repeat first | exact ph | apply pt)
      have hc := hb.2.reads.1
      have hd := he.2.reads.1
      refine leaves_cons (f := 36) (args := #[.pointer (some ⟨ks, 0, none⟩), .pointer (some ⟨ke, 0, none⟩)]) (by intro h; cases h) (enters_of Tryz.func36 (by kernel_rfl) rfl _ _) ?_
      refine (parse1_none w11 ks ke).mono ?_
      rintro r2 u wq ⟨rfl, rfl, rfl⟩
      refine ⟨.tuple #[sj.v, .int .i64 0], ?_, ?_, HM.out.extTo⟩
      · unfold Sd.v Sd.cells
        simp [results, Tryz.results16, go_sem, hc, hd]
      · rw [HQ.out]
end Go.Proofs.YtcfgnbbiljohjaaGreatDoor
end
section
/- The chapter's rows of the frames: works() tells true. Condition: the tables read as they are laid. -/
set_option linter.unusedVariables false
set_option linter.unusedSimpArgs false
set_option maxHeartbeats 4000000
set_option maxRecDepth 10000
namespace Go.Proofs.YtcfgnbbiljohjaaGreatDoor
open Go.RowKit
theorem splitL_frame {l : List UInt8} (h : l.length ≤ 4096) : splitL (frameL l) = (l, (numL (l.length + 4)).length + (l.length + 4), 0) := by
  unfold splitL frameL
  have ht := takeL_num (n := l.length + 4) (by unfold topN; omega) (sealL l)
  have hn := (numL_len (l.length + 4)).1
  have hs := sealL_len l
  rw [ht]
  dsimp only
  rw [if_neg (by omega), if_neg (by omega), Int.toNat_natCast, if_neg (by rw [List.length_append]; omega), List.drop_left, List.take_of_length_le (by omega), open_seal]
theorem num_any (w : World) (n : Int) : Calls Tryz.prog 14 #[.int .i64 n] w fun e w' => e = .returned (.int .i64 n) ∧ w' = w := by
  go_enter Tryz.func14, Tryz.ntmps14
  go_wp2_with fail
  go_ret
  exact ⟨rfl, rfl⟩
def ofB (m : Bool) (k : Int) : Bool := if m then decide (1 ≤ k) && decide (k ≤ 7) else decide (8 ≤ k) && decide (k ≤ 12)
theorem framesOf_any (w : World) (m : Bool) (k : Int) : Calls Tryz.prog 19 #[.bool m, .int .i64 k] w fun e w' => e = .returned (.bool (ofB m k)) ∧ w' = w := by
  cases m
  · go_enter Tryz.func19, Tryz.ntmps19
    go_wp2_with fail
    refine (in_kind _ k 8 12).mono ?_
    rintro e w' ⟨rfl, hwq⟩
    rw [hwq]
    clear hwq w'
    go_wp2_with fail
    go_ret
    exact ⟨rfl, rfl⟩
  · go_enter Tryz.func19, Tryz.ntmps19
    go_wp2_with fail
    refine (in_kind _ k 1 7).mono ?_
    rintro e w' ⟨rfl, hwq⟩
    rw [hwq]
    clear hwq w'
    go_wp2_with fail
    go_ret
    exact ⟨rfl, rfl⟩
theorem bodyF_any (W w : World) (hT : Tabs W) (hE : Ext W w) (s : Sd) (hs : OkS s) (hb : sdB s = true) (hl : (bodyL s).length ≤ 4096) :
    Calls Tryz.prog 24 #[s.v] w fun e w' => e = .returned (.string (bs (bodyL s))) ∧ Ext w w' := by
  have HM := Lib.hid (Mem.start0 w)
  have HE := Lib.hid hE
  have HS := Lib.hid hs
  have HB := Lib.hid hb
  have hfl : (frameL (bodyL s)).length ≤ 1099511627776 := by
    have := numL_len ((bodyL s).length + 4)
    have := sealL_len (bodyL s)
    unfold frameL
    rw [List.length_append]
    omega
  have HFL := Lib.hid hfl
  have HSP := Lib.hid (splitL_frame hl)
  have HV := Lib.hid (show s.v = .agg s.cells.toArray from rfl)
  clear hE hs hb hl hfl
  unfold Sd.v Sd.cells
  go_enter Tryz.func24, Tryz.ntmps24
  have fM := HM.out.fa
  go_wp2_with fail
  all_goals clear fM
  refine nxt HM fun w1 M => ?_
  clear HM; have HM := M; clear M
  refine (raw_ok W w1 hT (HE.out.ext HM.out.extTo) s HS.out HB.out).mono ?_
  rintro e w2 ⟨v, rfl, hU⟩
  obtain ⟨F2, u1, u2, u3⟩ := hU
  have hN : ∀ k, F2 k → k < w2.heap.size := fun k hk => (bytR v (frameL (bodyL s))).lt u1 k hk
  replace HM := Lib.hid (HM.out.ext u2)
  have HBY := Lib.hid (bytR.bytes u1)
  have HN := Lib.hid hN
  clear u1 u2 u3 hN
  have fM := HM.out.fa
  go_wp2_with fail
  all_goals clear fM
  refine (rsplit_any w2 v (frameL (bodyL s)) HBY.out HN.out HFL.out).mono ?_
  rintro e w3 ⟨⟨x, rfl, hx⟩, hE2⟩
  rw [HSP.out] at hx ⊢
  dsimp only at hx ⊢
  replace HM := Lib.hid (HM.out.ext hE2)
  have hcv := hx.str
  clear hE2 hx
  have fM := HM.out.fa
  go_wp2_with fail
  all_goals clear fM
  go_ret
  exact ⟨rfl, HM.out.extTo⟩
theorem parse_nil : parseL [] = (Sd.of 0, 340) := by decide +kernel
theorem parse_two : parseL [2] = (Sd.of 2, 0) := by decide +kernel
theorem parse_two0 : parseL [2, 0] = (Sd.of 0, 340) := by decide +kernel
def hiS : Sd := ⟨4, 0, 1, 0, false, [104, 105], [], En0⟩
def tyS : Sd := ⟨10, 3, 0, 0, true, [], [], En0⟩
def noS : Sd := ⟨9, 0, 0, 0, false, [], [], ⟨1, 0, 0, []⟩⟩
theorem hi_ok : sdB hiS = true := by decide +kernel
theorem ty_ok : sdB tyS = true := by decide +kernel
theorem hi_body : bodyL hiS = [4, 1, 2, 104, 105] := by decide +kernel
theorem ty_body : bodyL tyS = [10, 3, 1] := by decide +kernel
theorem no_chk : chkI noS = 2 := by decide +kernel
theorem sd_ok {s : Sd} (h1 : I64 s.e.kind) (h2 : s.text.length ≤ 200) (h3 : s.token.length ≤ 200) (h4 : s.e.text.length ≤ 200) : OkS s := ⟨h1, by omega, by omega, by omega⟩
theorem works_any (W w : World) (hT : Tabs W) (hE : Ext W w) : Calls Tryz.prog 10 #[] w fun e w' => e = .returned (.bool true) ∧ Ext w w' := by
  have HM := Lib.hid (Mem.start0 w)
  have HE := Lib.hid hE
  clear hE
  go_enter Tryz.func10, Tryz.ntmps10
  have fM := HM.out.fa
  go_wp2_with fail
  all_goals clear fM
  refine (parse_any W w hT (HE.out.ext HM.out.extTo) _ [] (SlV.nil (A := NoB)) (by decide)).mono ?_
  rintro e w1 ⟨rfl, hE2⟩
  rw [parse_nil]
  replace HM := Lib.hid (HM.out.ext hE2)
  clear hE2
  unfold Sd.of Sd.v Sd.cells En0
  have fM := HM.out.fa
  go_wp2_with fail
  all_goals clear fM
  refine nxt HM fun w2 M => ?_
  clear HM; have HM := M; clear M
  obtain ⟨Ahb, hb⟩ := HM.out.get (r := cellsR (w1.heap.size + 1) 5 [.int .u8 2]) (by with_reducible repeat first | exact ph | apply pt)
  have hby := box_bytes (l := [2]) hb.2 1 (by decide)
  refine (parse_any W w2 hT (HE.out.ext HM.out.extTo) _ [2] hby (by decide)).mono ?_
  rintro e w3 ⟨rfl, hE2⟩
  rw [parse_two]
  replace HM := Lib.hid (HM.out.ext hE2)
  clear hE2
  clear hb hby
  clear Ahb
  unfold Sd.of Sd.v Sd.cells En0
  have fM := HM.out.fa
  go_wp2_with fail
  all_goals clear fM
  refine nxt HM fun w4 M => ?_
  clear HM; have HM := M; clear M
  obtain ⟨Ahb, hb⟩ := HM.out.get (r := cellsR (w3.heap.size + 1) 5 [.int .u8 2, .int .u8 0]) (by with_reducible repeat first | exact ph | apply pt)
  have hby := box_bytes (l := [2, 0]) hb.2 2 (by decide)
  refine (parse_any W w4 hT (HE.out.ext HM.out.extTo) _ [2, 0] hby (by decide)).mono ?_
  rintro e w5 ⟨rfl, hE2⟩
  rw [parse_two0]
  replace HM := Lib.hid (HM.out.ext hE2)
  clear hE2
  clear hb hby
  clear Ahb
  unfold Sd.of Sd.v Sd.cells En0
  have fM := HM.out.fa
  go_wp2_with fail
  all_goals clear fM
  refine nxt HM fun w6 M => ?_
  clear HM; have HM := M; clear M
  refine (check_any W w6 hT (HE.out.ext HM.out.extTo) noS (sd_ok (i64_lit 1 rfl) (by decide) (by decide) (by decide)) (i64_lit 9 rfl)).mono ?_
  rintro e w7 ⟨rfl, hE2⟩
  rw [no_chk]
  replace HM := Lib.hid (HM.out.ext hE2)
  clear hE2
  have fM := HM.out.fa
  go_wp2_with fail
  all_goals clear fM
  refine nxt HM fun w8 M => ?_
  clear HM; have HM := M; clear M
  refine (bodyF_any W w8 hT (HE.out.ext HM.out.extTo) hiS (sd_ok (i64_lit 0 rfl) (by decide) (by decide) (by decide)) hi_ok (by rw [hi_body]; decide)).mono ?_
  rintro e w9 ⟨rfl, hE2⟩
  rw [hi_body]
  have hbs : (bs [4, 1, 2, 104, 105]).toList = [4, 1, 2, 104, 105] := by kernel_rfl
  replace HM := Lib.hid (HM.out.ext hE2)
  clear hE2
  have fM := HM.out.fa
  go_wp2_with fail
  all_goals clear fM
  refine nxt HM fun w10 M => ?_
  clear HM; have HM := M; clear M
  clear hbs
  refine (bodyF_any W w10 hT (HE.out.ext HM.out.extTo) tyS (sd_ok (i64_lit 0 rfl) (by decide) (by decide) (by decide)) ty_ok (by rw [ty_body]; decide)).mono ?_
  rintro e w11 ⟨rfl, hE2⟩
  rw [ty_body]
  have hbs : (bs [10, 3, 1]).toList = [10, 3, 1] := by kernel_rfl
  replace HM := Lib.hid (HM.out.ext hE2)
  clear hE2
  have heq : ∀ W, (binOp .eql 27 (.agg #[.int .i64 2, .int .i64 0, .int .i64 0, .int .i64 0, .bool false, .string (bs []), .string (bs []), .int .i64 0, .int .i64 0, .int .i64 0, .string (bs [])]) (.agg #[.int .i64 2, .int .i64 0, .int .i64 0, .int .i64 0, .bool false, .string ⟨#[]⟩, .string ⟨#[]⟩, .int .i64 0, .int .i64 0, .int .i64 0, .string ⟨#[]⟩])).run Tryz.prog W = .ok (.bool true) W := fun W => eq_sd (Sd.of 2) (Sd.of 2) W
  have fM := HM.out.fa
  go_wp2_with fail
  all_goals clear fM
  refine (num_any _ _).mono ?_
  rintro r wq ⟨rfl, hwq⟩
  rw [hwq]
  clear hwq wq
  have fM := HM.out.fa
  go_wp2_with fail
  all_goals clear fM
  refine (num_any _ _).mono ?_
  rintro r wq ⟨rfl, hwq⟩
  rw [hwq]
  clear hwq wq
  have fM := HM.out.fa
  go_wp2_with fail
  all_goals clear fM
  refine (num_any _ _).mono ?_
  rintro r wq ⟨rfl, hwq⟩
  rw [hwq]
  clear hwq wq
  have fM := HM.out.fa
  go_wp2_with fail
  all_goals clear fM
  refine (num_any _ _).mono ?_
  rintro r wq ⟨rfl, hwq⟩
  rw [hwq]
  clear hwq wq
  have fM := HM.out.fa
  go_wp2_with fail
  all_goals clear fM
  clear hbs heq
  refine (framesOf_any _ true 5).mono ?_
  rintro e wq ⟨rfl, hwq⟩
  rw [hwq, show ofB true 5 = true by kernel_rfl]
  clear hwq wq
  have fM := HM.out.fa
  go_wp2_with fail
  all_goals clear fM
  go_ret
  exact ⟨rfl, HM.out.extTo⟩
theorem of_walk (W : World) (k : Int) (hT : Tabs W) : Calls Tryz.prog 6 #[.int .i64 k] W fun e w' => e = .returned (.bool true) ∧ Ext W w' := by
  obtain ⟨x, hx⟩ : ∃ x, ofB true k = x := ⟨_, rfl⟩
  obtain ⟨y, hy⟩ : ∃ y, ofB false k = y := ⟨_, rfl⟩
  have HX := Lib.hid hx
  have HY := Lib.hid hy
  have hq : (k < 1 ∧ x = false ∧ y = false) ∨ (1 ≤ k ∧ k ≤ 7 ∧ x = true ∧ y = false) ∨ (8 ≤ k ∧ k ≤ 12 ∧ x = false ∧ y = true) ∨ (12 < k ∧ x = false ∧ y = false) := by
    rw [← hx, ← hy]
    unfold ofB
    simp only [if_true, Bool.false_eq_true, if_false, Bool.and_eq_true, Bool.and_eq_false_iff, decide_eq_true_eq, decide_eq_false_iff_not]
    omega
  clear hx hy
  rcases hq with ⟨h1, rfl, rfl⟩ | ⟨h1, h2, rfl, rfl⟩ | ⟨h1, h2, rfl, rfl⟩ | ⟨h1, rfl, rfl⟩
  · go_enter Tryz.func6, Tryz.ntmps6
    go_wp2_with fail
    refine (framesOf_any _ true k).mono ?_
    rintro e wq ⟨rfl, hwq⟩
    rw [hwq, HX.out]
    clear hwq wq
    go_wp2_with fail
    refine (framesOf_any _ false k).mono ?_
    rintro e wq ⟨rfl, hwq⟩
    rw [hwq, HY.out]
    clear hwq wq
    go_wp2_with fail
    refine (works_any W W hT (Keeps.refl _ _)).mono ?_
    rintro e w1 ⟨rfl, hE⟩
    go_wp2_with fail
    go_ret
    refine ⟨?_, hE⟩
    rfl
  · go_enter Tryz.func6, Tryz.ntmps6
    go_wp2_with fail
    refine (framesOf_any _ true k).mono ?_
    rintro e wq ⟨rfl, hwq⟩
    rw [hwq, HX.out]
    clear hwq wq
    go_wp2_with fail
    refine (framesOf_any _ false k).mono ?_
    rintro e wq ⟨rfl, hwq⟩
    rw [hwq, HY.out]
    clear hwq wq
    go_wp2_with fail
    refine (works_any W W hT (Keeps.refl _ _)).mono ?_
    rintro e w1 ⟨rfl, hE⟩
    go_wp2_with fail
    go_ret
    refine ⟨?_, hE⟩
    rfl
  · go_enter Tryz.func6, Tryz.ntmps6
    go_wp2_with fail
    refine (framesOf_any _ true k).mono ?_
    rintro e wq ⟨rfl, hwq⟩
    rw [hwq, HX.out]
    clear hwq wq
    go_wp2_with fail
    refine (framesOf_any _ false k).mono ?_
    rintro e wq ⟨rfl, hwq⟩
    rw [hwq, HY.out]
    clear hwq wq
    go_wp2_with fail
    refine (works_any W W hT (Keeps.refl _ _)).mono ?_
    rintro e w1 ⟨rfl, hE⟩
    go_wp2_with fail
    go_ret
    refine ⟨?_, hE⟩
    simp [show ¬ k ≤ 7 by omega]
  · go_enter Tryz.func6, Tryz.ntmps6
    go_wp2_with fail
    refine (framesOf_any _ true k).mono ?_
    rintro e wq ⟨rfl, hwq⟩
    rw [hwq, HX.out]
    clear hwq wq
    go_wp2_with fail
    refine (framesOf_any _ false k).mono ?_
    rintro e wq ⟨rfl, hwq⟩
    rw [hwq, HY.out]
    clear hwq wq
    go_wp2_with fail
    refine (works_any W W hT (Keeps.refl _ _)).mono ?_
    rintro e w1 ⟨rfl, hE⟩
    go_wp2_with fail
    go_ret
    refine ⟨?_, hE⟩
    simp [show ¬ k ≤ 7 by omega, show ¬ k ≤ 12 by omega]
end Go.Proofs.YtcfgnbbiljohjaaGreatDoor
end
section
/- The document's lone: what is said with only the parts of its kind. No condition but the kind's. -/
set_option linter.unusedVariables false
set_option linter.unusedSimpArgs false
set_option maxHeartbeats 4000000
set_option maxRecDepth 10000
namespace Go.Proofs.YtcfgnbbiljohjaaGreatDoor
open Go.RowKit
/-- one part of s laid into x -/
def Part.keep (s : Sd) : Part → Sd → Sd
  | .member, x => { x with member := s.member }
  | .number _, x => { x with number := s.number }
  | .index, x => { x with index := s.index }
  | .is, x => { x with is := s.is }
  | .said, x => { x with text := s.text }
  | .token, x => { x with token := s.token }
  | .entry, x => { x with e := s.e }
def loneS (s : Sd) : Sd := ((partsOf s.kind).getD []).foldl (fun x p => p.keep s x) (Sd.of s.kind)
theorem lone_any (w : World) (s : Sd) (h : 1 ≤ s.kind ∧ s.kind ≤ 12) :
    Calls Tryz.prog 32 #[s.v] w fun e w' => e = .returned (loneS s).v ∧ Ext w w' := by
  obtain ⟨k, m, n, i, is, t, tok, en⟩ := s
  dsimp only at h
  obtain rfl | rfl | rfl | rfl | rfl | rfl | rfl | rfl | rfl | rfl | rfl | rfl : k = 1 ∨ k = 2 ∨ k = 3 ∨ k = 4 ∨ k = 5 ∨ k = 6 ∨ k = 7 ∨ k = 8 ∨ k = 9 ∨ k = 10 ∨ k = 11 ∨ k = 12 := by omega
  · have HR := Lib.hid (show loneS ⟨1, m, n, i, is, t, tok, en⟩ = ⟨1, m, 0, 0, false, [], tok, En0⟩ from rfl)
    have HM := Lib.hid (Mem.start0 w)
    clear h
    obtain ⟨zv, hzv⟩ : ∃ v, (loneS ⟨1, m, n, i, is, t, tok, en⟩).v = v := ⟨_, rfl⟩
    rw [hzv]
    have HZ := Lib.hid hzv
    clear hzv
    unfold Sd.v Sd.cells
    dsimp only
    go_enter Tryz.func32, Tryz.ntmps32
    have fM := HM.out.fa
    go_wp2_with fail
    all_goals clear fM
    refine nxt HM fun w1 M => ?_
    clear HM; have HM := M; clear M
    obtain ⟨Ab, hb⟩ := HM.out.get (.there .here)
    refine bodyPost_ret (results_c Tryz.results32 _ rfl (run_loadVar_row w1 _ _ 27 _ (0, 0) _ hb.2 Tryz.underlying27 rfl (by kernel_rfl))) rfl ?_
    exact ⟨by rw [← HZ.out, HR.out]; rfl, HM.out.extTo⟩
  · have HR := Lib.hid (show loneS ⟨2, m, n, i, is, t, tok, en⟩ = ⟨2, 0, 0, 0, false, [], [], En0⟩ from rfl)
    have HM := Lib.hid (Mem.start0 w)
    clear h
    obtain ⟨zv, hzv⟩ : ∃ v, (loneS ⟨2, m, n, i, is, t, tok, en⟩).v = v := ⟨_, rfl⟩
    rw [hzv]
    have HZ := Lib.hid hzv
    clear hzv
    unfold Sd.v Sd.cells
    dsimp only
    go_enter Tryz.func32, Tryz.ntmps32
    have fM := HM.out.fa
    go_wp2_with fail
    all_goals clear fM
    refine nxt HM fun w1 M => ?_
    clear HM; have HM := M; clear M
    obtain ⟨Ab, hb⟩ := HM.out.get (.there .here)
    refine bodyPost_ret (results_c Tryz.results32 _ rfl (run_loadVar_row w1 _ _ 27 _ (0, 0) _ hb.2 Tryz.underlying27 rfl (by kernel_rfl))) rfl ?_
    exact ⟨by rw [← HZ.out, HR.out]; rfl, HM.out.extTo⟩
  · have HR := Lib.hid (show loneS ⟨3, m, n, i, is, t, tok, en⟩ = ⟨3, 0, 0, 0, false, [], [], En0⟩ from rfl)
    have HM := Lib.hid (Mem.start0 w)
    clear h
    obtain ⟨zv, hzv⟩ : ∃ v, (loneS ⟨3, m, n, i, is, t, tok, en⟩).v = v := ⟨_, rfl⟩
    rw [hzv]
    have HZ := Lib.hid hzv
    clear hzv
    unfold Sd.v Sd.cells
    dsimp only
    go_enter Tryz.func32, Tryz.ntmps32
    have fM := HM.out.fa
    go_wp2_with fail
    all_goals clear fM
    refine nxt HM fun w1 M => ?_
    clear HM; have HM := M; clear M
    obtain ⟨Ab, hb⟩ := HM.out.get (.there .here)
    refine bodyPost_ret (results_c Tryz.results32 _ rfl (run_loadVar_row w1 _ _ 27 _ (0, 0) _ hb.2 Tryz.underlying27 rfl (by kernel_rfl))) rfl ?_
    exact ⟨by rw [← HZ.out, HR.out]; rfl, HM.out.extTo⟩
  · have HR := Lib.hid (show loneS ⟨4, m, n, i, is, t, tok, en⟩ = ⟨4, 0, n, 0, false, t, [], En0⟩ from rfl)
    have HM := Lib.hid (Mem.start0 w)
    clear h
    obtain ⟨zv, hzv⟩ : ∃ v, (loneS ⟨4, m, n, i, is, t, tok, en⟩).v = v := ⟨_, rfl⟩
    rw [hzv]
    have HZ := Lib.hid hzv
    clear hzv
    unfold Sd.v Sd.cells
    dsimp only
    go_enter Tryz.func32, Tryz.ntmps32
    have fM := HM.out.fa
    go_wp2_with fail
    all_goals clear fM
    refine nxt HM fun w1 M => ?_
    clear HM; have HM := M; clear M
    obtain ⟨Ab, hb⟩ := HM.out.get (.there .here)
    refine bodyPost_ret (results_c Tryz.results32 _ rfl (run_loadVar_row w1 _ _ 27 _ (0, 0) _ hb.2 Tryz.underlying27 rfl (by kernel_rfl))) rfl ?_
    exact ⟨by rw [← HZ.out, HR.out]; rfl, HM.out.extTo⟩
  · have HR := Lib.hid (show loneS ⟨5, m, n, i, is, t, tok, en⟩ = ⟨5, 0, 0, i, false, [], [], En0⟩ from rfl)
    have HM := Lib.hid (Mem.start0 w)
    clear h
    obtain ⟨zv, hzv⟩ : ∃ v, (loneS ⟨5, m, n, i, is, t, tok, en⟩).v = v := ⟨_, rfl⟩
    rw [hzv]
    have HZ := Lib.hid hzv
    clear hzv
    unfold Sd.v Sd.cells
    dsimp only
    go_enter Tryz.func32, Tryz.ntmps32
    have fM := HM.out.fa
    go_wp2_with fail
    all_goals clear fM
    refine nxt HM fun w1 M => ?_
    clear HM; have HM := M; clear M
    obtain ⟨Ab, hb⟩ := HM.out.get (.there .here)
    refine bodyPost_ret (results_c Tryz.results32 _ rfl (run_loadVar_row w1 _ _ 27 _ (0, 0) _ hb.2 Tryz.underlying27 rfl (by kernel_rfl))) rfl ?_
    exact ⟨by rw [← HZ.out, HR.out]; rfl, HM.out.extTo⟩
  · have HR := Lib.hid (show loneS ⟨6, m, n, i, is, t, tok, en⟩ = ⟨6, 0, 0, 0, false, [], [], En0⟩ from rfl)
    have HM := Lib.hid (Mem.start0 w)
    clear h
    obtain ⟨zv, hzv⟩ : ∃ v, (loneS ⟨6, m, n, i, is, t, tok, en⟩).v = v := ⟨_, rfl⟩
    rw [hzv]
    have HZ := Lib.hid hzv
    clear hzv
    unfold Sd.v Sd.cells
    dsimp only
    go_enter Tryz.func32, Tryz.ntmps32
    have fM := HM.out.fa
    go_wp2_with fail
    all_goals clear fM
    refine nxt HM fun w1 M => ?_
    clear HM; have HM := M; clear M
    obtain ⟨Ab, hb⟩ := HM.out.get (.there .here)
    refine bodyPost_ret (results_c Tryz.results32 _ rfl (run_loadVar_row w1 _ _ 27 _ (0, 0) _ hb.2 Tryz.underlying27 rfl (by kernel_rfl))) rfl ?_
    exact ⟨by rw [← HZ.out, HR.out]; rfl, HM.out.extTo⟩
  · have HR := Lib.hid (show loneS ⟨7, m, n, i, is, t, tok, en⟩ = ⟨7, 0, 0, 0, is, [], [], En0⟩ from rfl)
    have HM := Lib.hid (Mem.start0 w)
    clear h
    obtain ⟨zv, hzv⟩ : ∃ v, (loneS ⟨7, m, n, i, is, t, tok, en⟩).v = v := ⟨_, rfl⟩
    rw [hzv]
    have HZ := Lib.hid hzv
    clear hzv
    unfold Sd.v Sd.cells
    dsimp only
    go_enter Tryz.func32, Tryz.ntmps32
    have fM := HM.out.fa
    go_wp2_with fail
    all_goals clear fM
    refine nxt HM fun w1 M => ?_
    clear HM; have HM := M; clear M
    obtain ⟨Ab, hb⟩ := HM.out.get (.there .here)
    refine bodyPost_ret (results_c Tryz.results32 _ rfl (run_loadVar_row w1 _ _ 27 _ (0, 0) _ hb.2 Tryz.underlying27 rfl (by kernel_rfl))) rfl ?_
    exact ⟨by rw [← HZ.out, HR.out]; rfl, HM.out.extTo⟩
  · have HR := Lib.hid (show loneS ⟨8, m, n, i, is, t, tok, en⟩ = ⟨8, 0, 0, i, false, [], tok, En0⟩ from rfl)
    have HM := Lib.hid (Mem.start0 w)
    clear h
    obtain ⟨zv, hzv⟩ : ∃ v, (loneS ⟨8, m, n, i, is, t, tok, en⟩).v = v := ⟨_, rfl⟩
    rw [hzv]
    have HZ := Lib.hid hzv
    clear hzv
    unfold Sd.v Sd.cells
    dsimp only
    go_enter Tryz.func32, Tryz.ntmps32
    have fM := HM.out.fa
    go_wp2_with fail
    all_goals clear fM
    refine nxt HM fun w1 M => ?_
    clear HM; have HM := M; clear M
    obtain ⟨Ab, hb⟩ := HM.out.get (.there .here)
    refine bodyPost_ret (results_c Tryz.results32 _ rfl (run_loadVar_row w1 _ _ 27 _ (0, 0) _ hb.2 Tryz.underlying27 rfl (by kernel_rfl))) rfl ?_
    exact ⟨by rw [← HZ.out, HR.out]; rfl, HM.out.extTo⟩
  · have HR := Lib.hid (show loneS ⟨9, m, n, i, is, t, tok, en⟩ = ⟨9, 0, 0, i, false, [], tok, en⟩ from rfl)
    have HM := Lib.hid (Mem.start0 w)
    clear h
    obtain ⟨zv, hzv⟩ : ∃ v, (loneS ⟨9, m, n, i, is, t, tok, en⟩).v = v := ⟨_, rfl⟩
    rw [hzv]
    have HZ := Lib.hid hzv
    clear hzv
    unfold Sd.v Sd.cells
    dsimp only
    go_enter Tryz.func32, Tryz.ntmps32
    have fM := HM.out.fa
    go_wp2_with fail
    all_goals clear fM
    refine nxt HM fun w1 M => ?_
    clear HM; have HM := M; clear M
    obtain ⟨Ab, hb⟩ := HM.out.get (.there .here)
    refine bodyPost_ret (results_c Tryz.results32 _ rfl (run_loadVar_row w1 _ _ 27 _ (0, 0) _ hb.2 Tryz.underlying27 rfl (by kernel_rfl))) rfl ?_
    exact ⟨by rw [← HZ.out, HR.out]; rfl, HM.out.extTo⟩
  · have HR := Lib.hid (show loneS ⟨10, m, n, i, is, t, tok, en⟩ = ⟨10, m, 0, 0, is, [], [], En0⟩ from rfl)
    have HM := Lib.hid (Mem.start0 w)
    clear h
    obtain ⟨zv, hzv⟩ : ∃ v, (loneS ⟨10, m, n, i, is, t, tok, en⟩).v = v := ⟨_, rfl⟩
    rw [hzv]
    have HZ := Lib.hid hzv
    clear hzv
    unfold Sd.v Sd.cells
    dsimp only
    go_enter Tryz.func32, Tryz.ntmps32
    have fM := HM.out.fa
    go_wp2_with fail
    all_goals clear fM
    refine nxt HM fun w1 M => ?_
    clear HM; have HM := M; clear M
    obtain ⟨Ab, hb⟩ := HM.out.get (.there .here)
    refine bodyPost_ret (results_c Tryz.results32 _ rfl (run_loadVar_row w1 _ _ 27 _ (0, 0) _ hb.2 Tryz.underlying27 rfl (by kernel_rfl))) rfl ?_
    exact ⟨by rw [← HZ.out, HR.out]; rfl, HM.out.extTo⟩
  · have HR := Lib.hid (show loneS ⟨11, m, n, i, is, t, tok, en⟩ = ⟨11, m, 0, 0, is, [], [], En0⟩ from rfl)
    have HM := Lib.hid (Mem.start0 w)
    clear h
    obtain ⟨zv, hzv⟩ : ∃ v, (loneS ⟨11, m, n, i, is, t, tok, en⟩).v = v := ⟨_, rfl⟩
    rw [hzv]
    have HZ := Lib.hid hzv
    clear hzv
    unfold Sd.v Sd.cells
    dsimp only
    go_enter Tryz.func32, Tryz.ntmps32
    have fM := HM.out.fa
    go_wp2_with fail
    all_goals clear fM
    refine nxt HM fun w1 M => ?_
    clear HM; have HM := M; clear M
    obtain ⟨Ab, hb⟩ := HM.out.get (.there .here)
    refine bodyPost_ret (results_c Tryz.results32 _ rfl (run_loadVar_row w1 _ _ 27 _ (0, 0) _ hb.2 Tryz.underlying27 rfl (by kernel_rfl))) rfl ?_
    exact ⟨by rw [← HZ.out, HR.out]; rfl, HM.out.extTo⟩
  · have HR := Lib.hid (show loneS ⟨12, m, n, i, is, t, tok, en⟩ = ⟨12, 0, n, 0, false, [], [], En0⟩ from rfl)
    have HM := Lib.hid (Mem.start0 w)
    clear h
    obtain ⟨zv, hzv⟩ : ∃ v, (loneS ⟨12, m, n, i, is, t, tok, en⟩).v = v := ⟨_, rfl⟩
    rw [hzv]
    have HZ := Lib.hid hzv
    clear hzv
    unfold Sd.v Sd.cells
    dsimp only
    go_enter Tryz.func32, Tryz.ntmps32
    have fM := HM.out.fa
    go_wp2_with fail
    all_goals clear fM
    refine nxt HM fun w1 M => ?_
    clear HM; have HM := M; clear M
    obtain ⟨Ab, hb⟩ := HM.out.get (.there .here)
    refine bodyPost_ret (results_c Tryz.results32 _ rfl (run_loadVar_row w1 _ _ 27 _ (0, 0) _ hb.2 Tryz.underlying27 rfl (by kernel_rfl))) rfl ?_
    exact ⟨by rw [← HZ.out, HR.out]; rfl, HM.out.extTo⟩
end Go.Proofs.YtcfgnbbiljohjaaGreatDoor
end
