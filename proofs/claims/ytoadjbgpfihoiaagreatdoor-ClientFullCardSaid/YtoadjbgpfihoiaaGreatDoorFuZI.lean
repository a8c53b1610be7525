/- Texts CI, CM, CO, one behind the other. Conditions: as each says. -/
import Derived.Test.YtoadjbgpfihoiaaGreatDoorFuZG
import Derived.Scope
import Derived.BigGuardIn
set_option linter.unusedVariables false
set_option linter.unusedSimpArgs false
set_option maxHeartbeats 8000000
set_option maxRecDepth 100000
namespace Go.Proofs.YtoadjbgpfihoiaaGreatDoor
open Go.RowKit
section
attribute [local go_sem] Oper.semAt_some
def hearT (cb kc : Nat) (Z : Nat → Res) (s : Cl × Nat) : Res := allR [cellsR kc 23 [.pointer (some ⟨cb, 0, none⟩)], clR cb s.1, Z s.2]
def hearRnd (s : Cl × Nat) (x : Sd) : (Cl × Nat) × Option (List PanicEntry) :=
 if (s.1.hear x).2.2 = 0 then (((s.1.hear x).1, if (s.1.hear x).2.1 then s.2 + 1 else s.2), none) else (((s.1.hear x).1, s.2), some (errP (s.1.hear x).2.2))
def hearFin (s : Cl × Nat) : (Cl × Nat) × Option (List PanicEntry) :=
 if (s.1.all s.2).2.2 = 0 then (((s.1.all s.2).1, (s.1.all s.2).2.1), none) else (((s.1.all s.2).1, (s.1.all s.2).2.1), some (errP (s.1.all s.2).2.2))
theorem hearFin_none {s : Cl × Nat} (h : (hearFin s).2 = none) : (s.1.all s.2).2.2 = 0 ∧ (hearFin s).1 = ((s.1.all s.2).1, (s.1.all s.2).2.1) := by
 unfold hearFin at h ⊢; split at h
 · next h1 => rw [if_pos h1]; exact ⟨h1, rfl⟩
 · cases h
theorem hearFin_some {s : Cl × Nat} {ch : List PanicEntry} (h : (hearFin s).2 = some ch) : (s.1.all s.2).2.2 ≠ 0 ∧ ch = errP (s.1.all s.2).2.2 ∧ (hearFin s).1 = ((s.1.all s.2).1, (s.1.all s.2).2.1) := by
 unfold hearFin at h ⊢; split at h
 · cases h
 · next h1 => rw [if_neg h1]; exact ⟨h1, (Option.some.inj h).symm, rfl⟩
def HearB (c : Cl) (n : Nat) : Prop := n + c.bytes.length ≤ 1000000000 ∧ c.m.lines.length + c.bytes.length ≤ 1000000 ∧ c.waits.length ≤ 1000
def HearOk (s : Cl × Nat) (x : Sd) : Prop := s.2 < 1000000000 ∧ s.1.m.lines.length < 1000000 ∧ s.1.waits.length ≤ 1000 ∧ sdB x = true ∧ OkS x ∧ I64 x.kind
def SaidY (x : Sd) (v : Array Value) : Prop := v = #[x.v]
theorem read_sdB (b : List UInt8) (h : (readL b).2.1 ≠ 0) : sdB (readL b).1 = true ∧ (readL b).2.2 = 0 := by
 unfold readL at h ⊢; split
 · next h1 => rw [if_pos h1] at h; exact absurd rfl h
 next h1 =>
 rw [if_neg h1] at h; split
 · next h2 => rw [if_pos h2] at h; exact absurd rfl h
 next h2 =>
 refine ⟨?_, rfl⟩; have h3 : (parseL (splitL b).1).2 = 0 := Classical.byContradiction h2; unfold parseL at h3 ⊢; dsimp only at h3 ⊢; split
 · next h4 => exact h4.2.2.2
 · next h4 => rw [if_neg h4] at h3; cases h3
theorem takeAll_ok : ∀ (ps : List Part) (r : Rdr) (s : Sd), OkS s → OkS (takeAll ps r s).2
 | [], r, s, h => h
 | p :: ps, r, s, h => takeAll_ok ps _ _ (p.take_ok r s h).1
theorem okS_of (k : Int) : OkS (Sd.of k) := ⟨i64_lit 0 rfl, Nat.zero_le _, Nat.zero_le _, Nat.zero_le _⟩
theorem parse_ok (b : List UInt8) : OkS (parseL b).1 := by
 unfold parseL; dsimp only; split
 · exact takeAll_ok _ _ _ (okS_of _)
 · exact okS_of 0
theorem read_ok (b : List UInt8) : OkS (readL b).1 := by
 unfold readL; split
 · exact okS_of 0
 · split
   · exact okS_of 0
   · exact parse_ok _
theorem sd_i64 {s : Sd} (h : sdB s = true) : I64 s.kind := by
 have h1 : 1 ≤ s.kind ∧ s.kind ≤ 12 := Classical.byContradiction fun hn => by
  have : partsOf s.kind = none := by
   unfold partsOf; repeat rw [if_neg (by omega)]
  unfold sdB at h; rw [this] at h; cases h
 unfold I64; omega
theorem left_len (c : Cl) (x : Sd) : (c.left x).length ≤ c.waits.length := by
 unfold Cl.left; split
 · exact List.length_filter_le _ _
 · exact Nat.le_refl _
theorem hear_bnd (c : Cl) (n : Nat) (x : Sd) (m : Nat) (hm : 0 < m) (hl : m ≤ c.bytes.length) (h : HearB c n) : (n < 1000000000 ∧ (c.cut m).m.lines.length < 1000000 ∧ (c.cut m).waits.length ≤ 1000) ∧ HearB ((c.cut m).hear x).1 (n + 1) := by
 obtain ⟨h1, h2, h3⟩ := h; have hd : (c.cut m).bytes.length = c.bytes.length - m := List.length_drop; have e1 := hear_len (c.cut m) x
 have e2 : ((c.cut m).hear x).1.m.lines.length ≤ c.m.lines.length + 1 := by
  unfold Cl.hear Cl.welcome Cl.line; split
  · split <;> exact Nat.le_succ _
  split
  · split
    · exact Nat.le_succ _
    · show (c.m.lines ++ [x.e]).length ≤ _
      simp
  split
  · exact Nat.le_succ _
  split
  · exact Nat.le_succ _
  split
  · exact Nat.le_succ _
  exact Nat.le_succ _
 have e3 : ((c.cut m).hear x).1.waits.length ≤ c.waits.length := by
  unfold Cl.hear Cl.welcome Cl.line; split
  · split <;> exact Nat.le_refl _
  split
  · split
    · exact Nat.le_refl _
    · exact left_len (c.cut m) x
  split
  · exact Nat.le_refl _
  split
  · exact Nat.le_refl _
  split
  · exact Nat.le_refl _
  exact Nat.le_refl _
 have e4 : (c.cut m).m.lines.length = c.m.lines.length := rfl; have e5 : (c.cut m).waits.length = c.waits.length := rfl; refine ⟨⟨by omega, by omega, by omega⟩, by omega, by omega, by omega⟩
def lenC (w : World) (k : Nat) : Nat := match w.cell? ⟨k, 41, none⟩ with
 | some (.slice _ n _) => n
 | _ => 0
theorem lenC_cl {A : Nat → Prop} {w : World} {cb : Nat} {c : Cl} (h : (clR cb c).p A w) : lenC w cb = c.bytes.length := by
 obtain ⟨lv, kv, wv, bv, hm⟩ := (Mem.start h).clOpen; obtain ⟨a, d, rfl⟩ := (hm.pick (r := readR bv c.bytes) (.there (.there (.there .here)))).fact fun A hA => readR.len hA
 obtain ⟨_, hb⟩ := hm.get (r := cellsR cb 112 (clC lv kv wv (.slice a c.bytes.length d) c)) .here; unfold lenC; rw [hb.2.reads.1]; rfl
theorem closeT {F : Nat → Prop} {w0 w : World} {cb kc k : Nat} {Z : Nat → Res} {c : Cl} {Lp : Res} {lv kv wv bv : Value} (h : Mem F w0 w (cellsR cb 112 (clC lv kv wv bv c) :: linR lv kv c.m.lines c.k.lines :: rowR tenE wv c.waits :: readR bv c.bytes :: [cellsR kc 23 [.pointer (some ⟨cb, 0, none⟩)], Z k, Lp])) :
 Mem F w0 w [hearT cb kc Z (c, k), Lp] :=
 Mem.close (L1 := [cellsR kc 23 [.pointer (some ⟨cb, 0, none⟩)], clR cb c, Z k]) ((Mem.clClose h).pick (.there .here)) fun _ hA => hA
theorem iter_said (cb kc : Nat) (Z : Nat → Res) (c : Cl) (n : Nat) (hok : HearB c n) :
 IterP Fence.wide 8 Tryz.prog 183 #[.pointer (some ⟨kc, 0, none⟩)] (hearT cb kc Z) SaidY HearOk hearRnd (c, n) (hearFin (c, n)) TabX := by
 intro ll Lp Lx W A h0 hx0 hround; have hm1 := (Mem.ofSep h0).unall; simp only [List.cons_append, List.nil_append] at hm1; have HM := Hd hm1; have HR := Hd hround; have HX := Hd hx0; have HB := Hd hok; clear h0 hround hm1 hx0 hok; refine callsIn_of_wp Tryz.func183 rfl trivial ?_ rfl; simp only [Tryz.ntmps183, List.size_toArray, List.length_cons, List.length_nil, Nat.reduceAdd, Nat.reduceSub, Array.replicate_succ, Array.replicate_zero, List.push_toArray, List.append_toArray, List.nil_append, List.cons_append]; refine wpIn_wide.2 (wp_scope_straight ((wpIn_wide (n := 8)).1 ?_)); gi_wp2
 refine wpIn_label ?_; gi_wp2
 gi_loopw [] (fun wr => ∃ (c' : Cl) (k : Nat), Hid (c'.all k = c.all n ∧ HearB c' k) ∧ Hid (Mem A W wr [cellsR kc 23 [.pointer (some ⟨cb, 0, none⟩)], clR cb c', Z k, Lp])) (fun wr => lenC wr cb)
 case atStart => exact ⟨c, n, Hd ⟨rfl, HB.out⟩, HM⟩
 case round =>
  clear HM; obtain ⟨c', k, HC, HM⟩ := hrel; have HL := Hd (show lenC wr cb = c'.bytes.length by obtain ⟨A1, h1⟩ := HM.out.get (r := clR cb c') pk; exact lenC_cl h1); have HST := Hd (all_step c' k); have hm := HM.out; obtain ⟨lv, kv, wv, bv, hm2⟩ := (hm.pick (r := clR cb c') pk).clOpen; obtain ⟨ab, cc, rfl⟩ := (hm2.pick (r := readR bv c'.bytes) pk).fact fun A hA => readR.len hA
  replace HM := Hd hm2; clear hm hm2; cases hon : c'.on
  · have HF := Hd (show hearFin (c, n) = ((c', k), none) by
     unfold hearFin; show (if (c.all n).2.2 = 0 then _ else _) = _
     rw [← HC.out.1, HST.out, if_pos hon]; rfl)
    have fM := HM.out.fa; gi_wp2_with fail
    clear fM; simp only [Exit.noGoto]; refine ⟨rfl, _, results_none rfl _ _ _, ?_⟩; rw [HF.out]; exact .inl ⟨⟨_, rfl⟩, rfl, (closeT (Mem.sub HM.out (by repeat first | exact Sub.nil | refine Sub.cons (by with_reducible repeat first | exact ph | apply pt) ?_))).updAll⟩
  have hst := HST.out; rw [if_neg (by rw [hon]; simp)] at hst; replace HST := Hd hst; obtain ⟨B1, hB1⟩ := HM.out.get (r := readR (.slice ab c'.bytes.length cc) c'.bytes) pk; have fM := HM.out.fa; gi_wp2_with fail
  clear fM; refine ⟨trivial, callsIn_wide.2 ((fread_any wr wr (tabs_mem HX.out HM.out) (Keeps.refl _ _) _ c'.bytes hB1.1 hB1.2 (by have := HC.out.2.1; omega)).mono ?_)⟩; rintro e w2 ⟨rfl, hE⟩; replace HM := Hd (HM.out.ext hE); have hs := read_sdB c'.bytes; have hrn := readL_n c'.bytes; have hro := read_ok c'.bytes; obtain ⟨⟨x, m, no⟩, hq⟩ : ∃ q, readL c'.bytes = q := ⟨_, rfl⟩; rw [hq] at hst hs hrn hro ⊢; dsimp only at hst hs hrn hro ⊢; replace HST := Hd hst; have HS := Hd hs; have HRN := Hd hrn; have HRO := Hd hro; clear hst hs hrn hro hq hE hB1; clear B1; by_cases h0 : no = 0
  case neg =>
   have HF := Hd (show hearFin (c, n) = ((c', k), some (errP no)) by
    unfold hearFin; show (if (c.all n).2.2 = 0 then _ else _) = _
    rw [← HC.out.1, HST.out, if_pos h0, if_neg h0])
   have d1 : (no == 0) = false := by simpa using h0
   clear h0 hon; unfold Sd.v Sd.cells; have fM := HM.out.fa; gi_wp2_with fail
   clear fM; refine ⟨trivial, callsIn_wide.2 ((cmust_no _ no).mono ?_)⟩; rintro e w3 ⟨rfl, hw⟩; rw [hw]; clear hw w3; refine ⟨rfl, ?_⟩; rw [HF.out]; exact .inr ⟨errP no, Lp, rfl, rfl, .inl rfl, (closeT (Mem.sub HM.out.to (by repeat first | exact Sub.nil | refine Sub.cons (by with_reducible repeat first | exact ph | apply pt) ?_))).updAll⟩
  subst h0; have hst := HST.out; rw [if_neg (fun h => h rfl)] at hst; replace HST := Hd hst; clear hst; by_cases hm0 : m = 0
  · have HF := Hd (show hearFin (c, n) = ((c', k), none) by
     unfold hearFin; show (if (c.all n).2.2 = 0 then _ else _) = _
     rw [← HC.out.1, HST.out, if_pos hm0]; rfl)
    subst hm0; clear hon; unfold Sd.v Sd.cells; have fM := HM.out.fa; gi_wp2_with fail
    clear fM; refine ⟨trivial, callsIn_wide.2 ((cmust_ok _ 0).mono ?_)⟩; rintro e w3 ⟨rfl, hw⟩; rw [hw]; clear hw w3; gi_wp2_with fail
    simp only [Exit.noGoto]; refine ⟨rfl, _, results_none rfl _ _ _, ?_⟩; rw [HF.out]; exact .inl ⟨⟨_, rfl⟩, rfl, (closeT (Mem.sub HM.out.to (by repeat first | exact Sub.nil | refine Sub.cons (by with_reducible repeat first | exact ph | apply pt) ?_))).updAll⟩
  have hst := HST.out; rw [if_neg hm0] at hst; replace HST := Hd hst; have HM0 := Hd (show 0 < m by omega); have d2 : ((m : Int) == 0) = false := by simp; omega
  clear hst hm0; unfold Sd.v Sd.cells; have fM := HM.out.fa; gi_wp2_with fail
  clear fM; refine ⟨trivial, callsIn_wide.2 ((cmust_ok _ 0).mono ?_)⟩; rintro e w3 ⟨rfl, hw⟩; rw [hw]; clear hw w3; gi_wp2_with fail
  obtain ⟨kx, hkx⟩ : ∃ q, w2.heap.size = q := ⟨_, rfl⟩; refine nxt HM fun w3 M => ?_
  replace HM := M; clear M; rw [hkx] at HM ⊢; clear hkx d2; have hsl : ∀ W, (Instr.sliceAt 27 (.slice ab c'.bytes.length cc) (some (.int .i64 (m : Int))) none none).run Tryz.prog W = .ok (sliced ab m c'.bytes.length cc 1) W := fun W => slice_l W ab c'.bytes.length cc m HRN.out
  obtain ⟨B1, hB1⟩ := HM.out.get (r := readR (.slice ab c'.bytes.length cc) c'.bytes) pk; have hpart := hB1.1.part m c'.bytes.length HRN.out (Nat.le_refl _); rw [List.take_length] at hpart; obtain ⟨a3, c3, he3⟩ := hpart.len; rw [he3] at hsl; have hm3 := (HM.out.pick (r := readR (.slice ab c'.bytes.length cc) c'.bytes) pk).turn (r' := readR (.slice a3 (c'.bytes.drop m).length c3) (c'.bytes.drop m)) fun A hA => ⟨by have := hA.1.part m c'.bytes.length HRN.out (Nat.le_refl _); rw [List.take_length, he3] at this; exact this, hA.2⟩
  replace HM := Hd hm3; clear hm3 hpart hB1 he3; clear B1; refine wpIn_wide.2 ?_; have fM := HM.out.fa; have hE0 : Keeps (fun k => k = cb) w3 w3.drew := (Keeps.refl _ _).drew; refine rgK (fun k => k = cb) [(3, 0), (3, 1), (0, 2), (0, 3), (3, 4), (0, 5), (0, 6), (0, 7), (0, 8)] [] [9] [9] ?_; simp only [planL, nL]; iterate 9 (first | (refine pM _ rfl rfl ?_; simp only [nP, nE]) | (refine pR (by rfl) (fun W => by go_simp <;> with_reducible rfl) ?_; simp only [nP]) | (refine pX (by rfl) (by go_simp <;> with_reducible rfl) ?_; simp only [nP]))
  refine plan_nil ?_; simp only [tailL, List.filterMap_cons, List.filterMap_nil, nL]; change wpList _ _ _ (_ :: []) _ _; go_wp2_with fail; clear fM; clear hE0 hsl; refine nxt HM fun w4 M => ?_
  replace HM := M; clear M
  have hm4 : Mem A W w4 [cellsR cb 112 (clC lv kv wv (.slice a3 (c'.bytes.length - m) c3) (c'.cut m)), readR (.slice a3 (c'.bytes.length - m) c3) (c'.bytes.drop m), cellsR kx 37 x.cells, linR lv kv c'.m.lines c'.k.lines, rowR tenE wv c'.waits, cellsR kc 23 [.pointer (some ⟨cb, 0, none⟩)], Z k, Lp] := by
   have hm := HM.out; rw [List.length_drop] at hm; exact hm
  obtain ⟨_, hbx⟩ := HM.out.get (r := cellsR kx 37 _) (by with_reducible repeat first | exact ph | apply pt); have BX := Hd (show Box w4 kx 37 x.cells from hbx.2); have hT : Mem A W w4 [hearT cb kc Z (c'.cut m, k), Lp] := closeT (c := c'.cut m) (Mem.sub hm4 (by repeat first | exact Sub.nil | refine Sub.cons (by with_reducible repeat first | exact ph | apply pt) ?_)); obtain ⟨hk4, F1, hsep, hF1⟩ := hT; have hbn := hear_bnd c' k x m HM0.out HRN.out HC.out.2; have hsd := HS.out (by have := HM0.out; omega); obtain ⟨fn, tmps, assign, body, hy, hRd⟩ := HR.out (c'.cut m, k) x #[x.v] w4 F1 ⟨hk4, hF1⟩ hsep ⟨hbn.1.1, hbn.1.2.1, hbn.1.2.2, hsd.1, HRO.out, sd_i64 hsd.1⟩ rfl; have HRd := Hd hRd; have HIN := Hd (⟨hk4, hF1⟩ : In A W F1 w4); have HBN := Hd hbn; clear hm4 hbx hk4 hsep hF1 hbn hsd hRd HM; unfold Sd.v Sd.cells at hy; unfold Sd.cells at BX; obtain ⟨cBX, zBX⟩ := BX.out.reads; have lBX := BX.out.lt; gi_wp2_with fail
  clear cBX zBX lBX; refine (roundIn_wide HRd.out).mono ?_; have hst := HST.out; rintro e W3 (⟨rfl, hn, hU⟩ | ⟨ch, rfl, hn, hU⟩)
  · have hno : ((c'.cut m).hear x).2.2 = 0 := by
     apply Classical.byContradiction
     intro h; unfold hearRnd at hn; dsimp only at hn; rw [if_neg h] at hn; cases hn
    rw [if_neg (fun h => h hno)] at hst
    have hrd : (hearRnd (c'.cut m, k) x).1 = (((c'.cut m).hear x).1, if ((c'.cut m).hear x).2.1 = true then k + 1 else k) := by
     unfold hearRnd; dsimp only; rw [if_pos hno]
    rw [hrd] at hU; have hm := (Mem.pre HIN.out hU.mem).unall; have hm2 := (hm.pick (r := hearT cb kc Z (((c'.cut m).hear x).1, if ((c'.cut m).hear x).2.1 = true then k + 1 else k)) .here).unall; have HM := Hd hm2
    have HLL := Hd (show lenC W3 cb < lenC wr cb by
     obtain ⟨A1, h1⟩ := hm2.get (r := clR cb ((c'.cut m).hear x).1) (.there .here); rw [HL.out, lenC_cl h1]; have h2 := hear_len (c'.cut m) x; have h3 : (c'.cut m).bytes.length = c'.bytes.length - m := List.length_drop; have h4 := HM0.out; have h5 := HRN.out
     omega)
    have HST2 := Hd (hst.symm.trans HC.out.1); clear hU hm hm2 hrd hno hn hst hy; gi_wp2_with fail
    refine ⟨⟨((c'.cut m).hear x).1, if ((c'.cut m).hear x).2.1 = true then k + 1 else k, Hd ⟨HST2.out, ?_⟩, Hd HM.out⟩, HLL.out⟩; have h6 := HBN.out.2; unfold HearB at h6 ⊢; split <;> omega
  · have hno : ¬ ((c'.cut m).hear x).2.2 = 0 := by
     intro h; unfold hearRnd at hn; dsimp only at hn; rw [if_pos h] at hn; cases hn
    rw [if_pos hno] at hst
    have hrd : hearRnd (c'.cut m, k) x = ((((c'.cut m).hear x).1, k), some (errP ((c'.cut m).hear x).2.2)) := by
     unfold hearRnd; dsimp only; rw [if_neg hno]
    have HF : hearFin (c, n) = ((((c'.cut m).hear x).1, k), some (errP ((c'.cut m).hear x).2.2)) := by
     unfold hearFin; show (if (c.all n).2.2 = 0 then _ else _) = _
     rw [← HC.out.1, hst, if_neg hno]
    rw [hrd] at hU hn; refine ⟨rfl, ?_⟩; rw [HF]; exact .inr ⟨ch, Lx, rfl, hn, .inr rfl, ((Mem.pre HIN.out hU.mem).unall).updAll⟩
end
section
attribute [local go_sem] Oper.semAt_some
instance gl12 (f0 : FuncId) (F : Fence) (n : Nat) (P : Program) (c : Code) (Q : Exit → Act → World → Prop) (a : Act) (w : World) : Gl (wpF f0 F n P c Q a w) (fun w => wpF f0 F n P c Q a w) w := ⟨id⟩
instance gl13 (F : Fence) (n : Nat) (P : Program) (fn : Func) (tmps : Array Value) (R : Ending → World → Prop) (ds : List Deferred) (u : FrameMode) (w : World) : Gl (LeavesInM F n P fn tmps R ds u w) (fun w => LeavesInM F n P fn tmps R ds u w) w := ⟨id⟩
def hearZ (cb kn ke k2 km mm : Nat) (k : Nat) : Res := allR [cellsR kn 3 [.int .i64 (k : Int)], cellsR ke 24 [.int .i64 0], cellsR k2 23 [.pointer (some ⟨cb, 0, none⟩)], cellsR km 175 [.map (some mm)], mapR mm (hearsD cb)]
theorem closeH {F : Nat → Prop} {w0 w : World} {cb kc kn ke k2 km mm k : Nat} {c : Cl} (h : Mem F w0 w [clR cb c, cellsR kn 3 [.int .i64 (k : Int)], cellsR ke 24 [.int .i64 0], cellsR k2 23 [.pointer (some ⟨cb, 0, none⟩)], cellsR km 175 [.map (some mm)], mapR mm (hearsD cb), cellsR kc 23 [.pointer (some ⟨cb, 0, none⟩)]]) :
 Upd F w0 w (hearT cb kc (hearZ cb kn ke k2 km mm) (c, k)) := by
 have hz := (Mem.close (L1 := [cellsR kn 3 [.int .i64 (k : Int)], cellsR ke 24 [.int .i64 0], cellsR k2 23 [.pointer (some ⟨cb, 0, none⟩)], cellsR km 175 [.map (some mm)], mapR mm (hearsD cb)]) (L := [cellsR kc 23 [.pointer (some ⟨cb, 0, none⟩)], clR cb c]) (r := hearZ cb kn ke k2 km mm k) (Mem.sub h (by repeat first | exact Sub.nil | refine Sub.cons (by with_reducible repeat first | exact ph | apply pt) ?_)) fun _ hA => hA); exact (Mem.close (L1 := [cellsR kc 23 [.pointer (some ⟨cb, 0, none⟩)], clR cb c, hearZ cb kn ke k2 km mm k]) (L := []) (r := hearT cb kc (hearZ cb kn ke k2 km mm) (c, k)) (Mem.sub hz (by repeat first | exact Sub.nil | refine Sub.cons (by with_reducible repeat first | exact ph | apply pt) ?_)) fun _ hA => hA).upd
theorem openH {F : Nat → Prop} {w0 w : World} {cb kc kn ke k2 km mm k : Nat} {c : Cl} {L : List Res} (h : Mem F w0 w (hearT cb kc (hearZ cb kn ke k2 km mm) (c, k) :: L)) : Mem F w0 w ([cellsR kn 3 [.int .i64 (k : Int)], cellsR ke 24 [.int .i64 0], cellsR k2 23 [.pointer (some ⟨cb, 0, none⟩)], cellsR km 175 [.map (some mm)], mapR mm (hearsD cb)] ++ (cellsR kc 23 [.pointer (some ⟨cb, 0, none⟩)] :: clR cb c :: L)) :=
 (h.unall.pick (r := hearZ cb kn ke k2 km mm k) (.there (.there .here))).unall
theorem zeroFnH (w : World) : (zeroValue 148).run Tryz.prog w = .ok nofn w := by kernel_rfl
theorem csaid_any (w : World) (cb : Nat) : Calls Tryz.prog 123 #[.pointer (some ⟨cb, 0, none⟩)] w fun e w' => ∃ kc, e = .returned (.func (.func 183) #[] #[.pointer (some ⟨kc, 0, none⟩)]) ∧ Upd NoB w w' (cellsR kc 23 [.pointer (some ⟨cb, 0, none⟩)]) := by
 have HM := Hd (Mem.start0 w); have hmf : ∀ (fn : Fn) (first cap : Array Value) (w : World), (Instr.makeFunc fn first cap).run Tryz.prog w = .ok (.func fn first cap) w := fun _ _ _ _ => rfl
 go_enter Tryz.func123, Tryz.ntmps123
 have fM := HM.out.fa; go_wp2_with fail; all_goals clear fM
 refine nxt HM fun w1 M => ?_
 replace HM := M; clear M; go_ret; exact ⟨_, rfl, HM.out.upd⟩
theorem chear_on {A B : Nat → Prop} (w : World) (cb : Nat) (c : Cl) (v : Value) (b : List UInt8) (h : (clR cb c).p A w) (hX : TabX A w) (hb : Bytes w B v b) (hBA : ∀ k, B k → ¬ A k) (hbd : HearB { c with bytes := c.bytes ++ b } 0) (hon : c.on = true) :
 Calls Tryz.prog 48 #[.pointer (some ⟨cb, 0, none⟩), v] w fun e w' => e = .returned (.tuple #[.int .i64 ((c.hears b).2.1 : Int), .int .i64 (c.hears b).2.2]) ∧ Upd A w w' (clR cb (c.hears b).1) := by
 obtain ⟨a0, c0, rfl⟩ := hb.len; obtain ⟨bd, hbde⟩ : ∃ l, c.bytes ++ b = l := ⟨_, rfl⟩; have HBE := Hd hbde; have HX := Hd hX; have HB := Hd hb; have HBA := Hd hBA; have HBD := Hd hbd; obtain ⟨lv, kv, wv, bv, hm⟩ := (Mem.start h).clOpen; obtain ⟨ab, cc, rfl⟩ := (hm.pick (r := readR bv c.bytes) pk).fact fun A hA => readR.len hA
 have HM := Hd hm; clear h hX hb hBA hbd hm hbde; refine (callsIn_wide (n := 9)).1 (callsIn_of_wpF Tryz.func48 rfl trivial ?_ rfl); simp only [Tryz.ntmps48, List.size_toArray, List.length_cons, List.length_nil, Nat.reduceAdd, Nat.reduceSub, Array.replicate_succ, Array.replicate_zero, List.push_toArray, List.append_toArray, List.nil_append, List.cons_append]; refine wpF_seq trivial (wpF_of trivial (wpIn_wide.2 ?_)); have fM := HM.out.fa; go_wp2_with fail; all_goals clear fM
 refine nxt HM fun w1 M => ?_
 replace HM := M; clear M; obtain ⟨k2, hk2⟩ : ∃ k, w.heap.size = k := ⟨_, rfl⟩; obtain ⟨kn, hkn⟩ : ∃ k, w.heap.size + 1 = k := ⟨_, rfl⟩; obtain ⟨ke, hke⟩ : ∃ k, w.heap.size + 1 + 1 = k := ⟨_, rfl⟩; rw [hke, hkn, hk2] at HM ⊢; clear hke hkn hk2; refine wpF_seq trivial (wpF_of trivial (wpIn_wide.2 ?_)); have fM := HM.out.fa; go_wp2_with fail; all_goals clear fM
 obtain ⟨_, hbx⟩ := HM.out.get (r := cellsR cb 112 (clC lv kv wv (.slice ab c.bytes.length cc) c)) pk; refine (cnone_at w1 cb true (hbx.2.reads.1 44)).mono ?_; rintro e w2 ⟨rfl, hw⟩; rw [hw]; clear hw w2 hbx; have fM := HM.out.fa; go_wp2_with fail; all_goals clear fM
 refine wpF_seq trivial (wpF_of trivial (wpIn_wide.2 ?_)); have fM := HM.out.fa; go_wp2_with fail; all_goals clear fM
 refine wpF_seq trivial (wpF_of trivial (wpIn_wide.2 ?_)); have hmm := run_makeMap (P := Tryz.prog) 175 w1; have hmf : ∀ (fn : Fn) (first cap : Array Value) (w : World), (Instr.makeFunc fn first cap).run Tryz.prog w = .ok (.func fn first cap) w := fun _ _ _ _ => rfl
 have put := fun (w : World) (D : List (Int × Value)) (m : Nat) (h : MapI w m D) (n : Int) (hn : I64 n) (hne : ∀ p ∈ D, p.1 ≠ n) (v : Value) => h.put Tryz.underlying175 Tryz.underlying32 hn hne v
 obtain ⟨_, hbx⟩ := HM.out.get (r := cellsR k2 23 [.pointer (some ⟨cb, 0, none⟩)]) pk; have e0 : w1.cell? ⟨k2, 0, none⟩ = some (.pointer (some ⟨cb, 0, none⟩)) := hbx.2.reads.1 0; have hk2 := hbx.2.lt; have e1 : (w1.alloc (.map #[] 0)).cell? ⟨k2, 0, none⟩ = some (.pointer (some ⟨cb, 0, none⟩)) := Ext.cell ((Keeps.refl NoB w1).alloc _) e0; have n1 : ¬ OneB w1.heap.size k2 := by unfold OneB; omega
 obtain ⟨x1, r1, m1, q1⟩ := put _ _ _ (mapi_new w1) 8 (i64_lit 8 rfl) (by simp) (.func (.func 117) #[.pointer (some ⟨cb, 0, none⟩)] #[]); have e2 : x1.cell? ⟨k2, 0, none⟩ = some (.pointer (some ⟨cb, 0, none⟩)) := Keeps.cell q1 n1 e1; obtain ⟨x2, r2, m2, q2⟩ := put _ _ _ m1 9 (i64_lit 9 rfl) (by simp) (.func (.func 118) #[.pointer (some ⟨cb, 0, none⟩)] #[]); have e3 : x2.cell? ⟨k2, 0, none⟩ = some (.pointer (some ⟨cb, 0, none⟩)) := Keeps.cell q2 n1 e2; obtain ⟨x3, r3, m3, q3⟩ := put _ _ _ m2 10 (i64_lit 10 rfl) (by simp) (.func (.func 119) #[.pointer (some ⟨cb, 0, none⟩)] #[]); have e4 : x3.cell? ⟨k2, 0, none⟩ = some (.pointer (some ⟨cb, 0, none⟩)) := Keeps.cell q3 n1 e3; obtain ⟨x4, r4, m4, q4⟩ := put _ _ _ m3 11 (i64_lit 11 rfl) (by simp) (.func (.func 120) #[.pointer (some ⟨cb, 0, none⟩)] #[]); have e5 : x4.cell? ⟨k2, 0, none⟩ = some (.pointer (some ⟨cb, 0, none⟩)) := Keeps.cell q4 n1 e4; obtain ⟨x5, r5, m5, q5⟩ := put _ _ _ m4 12 (i64_lit 12 rfl) (by simp) (.func (.func 121) #[.pointer (some ⟨cb, 0, none⟩)] #[]); have hE5 : Ext w1 x5 := ((Keeps.refl NoB w1).alloc _).then ((((q1.trans q2).trans q3).trans q4).trans q5) fun i hi h => absurd (show i = w1.heap.size from h) (by omega)
 obtain ⟨mm, hmmk⟩ : ∃ k, w1.heap.size = k := ⟨_, rfl⟩; have hm5 := HM.out.new (r := mapR w1.heap.size (hearsD cb)) (G := fun k => k = w1.heap.size) hE5 ⟨fun k => Iff.rfl, m5⟩ (fun k hk => by omega); rw [hmmk] at hm5 hmm r1 r2 r3 r4 r5; replace HM := Hd hm5; clear hm5 hE5 m1 m2 m3 m4 m5 q1 q2 q3 q4 q5 put hbx n1 hk2; go_wp2_with fail; clear hmm hmf r1 r2 r3 r4 r5 e0 e1 e2 e3 e4 e5 hmmk; obtain ⟨km, hkm⟩ : ∃ k, x5.heap.size = k := ⟨_, rfl⟩; refine nxt HM fun w7 M => ?_
 replace HM := M; clear M; rw [hkm] at HM ⊢; clear hkm; refine wpF_seq trivial (wpF_of trivial (wpIn_wide.2 ?_)); have fM := HM.out.fa; refine wp_region_noPanic ?_; have hE0 : Keeps NoB w7 w7.drew := (Keeps.refl _ _).drew; refine wp_region_plan [(1, 0), (3, 1), (0, 2), (0, 3), (3, 4), (0, 5), (2, 6), (2, 7), (0, 8), (0, 9)] [0] [6, 7, 10] [10] (ClsE w7) (by kernel_rfl) (by kernel_rfl) (by kernel_rfl) rfl rfl (ClsE.of hE0) (fun _ _ _ _ _ h => h) ?_; simp only [planL, nL]; iterate 6 (first | (refine pM _ rfl rfl ?_; simp only [nP, nE]) | (refine pR (by rfl) (fun W => by go_simp <;> with_reducible rfl) ?_; simp only [nP]) | (refine pX (by rfl) (by go_simp <;> with_reducible rfl) ?_; simp only [nP]) | (refine pL (by rfl) (fun W => by go_simp <;> with_reducible rfl) ?_; simp only [nP]))
 refine plan_does rfl (fun K hK => ?_); go_wp2_with fail; refine ⟨ClsE.of (by repeat (first | assumption | exact Keeps.refl _ _ | refine Keeps.alloc ?_ _ | refine Keeps.setOne ?_ _ _ | refine Keeps.setCell ?_ _ _ (.inl (by first | rfl | exact .inl rfl | exact .inr rfl | omega)) | refine Keeps.drew ?_)), ?_⟩; try simp only [nP]
 refine plan_does rfl (fun K hK => ?_); go_wp2_with fail; skip
 refine Mem.callE (wr := w7) HM.out.to (by repeat (first | assumption | exact Keeps.refl _ _ | with_reducible apply Keeps.drew | with_reducible apply Keeps.alloc)) fun w8 M hE8 => ?_
 replace HM := Hd M; clear M; obtain ⟨_, hbs⟩ := HM.out.get (r := cellsR w7.heap.size 27 _) ph; obtain ⟨D1, hD1⟩ := HM.out.get (r := readR (.slice ab c.bytes.length cc) c.bytes) pk; have hB8 := HB.out.keeps HM.out.keepsTo HBA.out
 refine (concat_some (fun k => B k ∨ D1 k) w7.heap.size 0 2 2 [c.bytes, b] w8 rfl (by decide) (by
  have h1 := HBD.out.1; have h2 : (c.bytes ++ b).length = c.bytes.length + b.length := List.length_append; simp only [sumLen, List.map_cons, List.map_nil, List.sum_cons, List.sum_nil]; dsimp only at h1
  omega) ?_).mono ?_
 · intro i hi
   have h2 : i < 2 := hi; obtain rfl | rfl : i = 0 ∨ i = 1 := by omega
   · exact ⟨_, by rw [hbs.2.reads.1]; rfl, hD1.1.mono fun _ h => .inr h⟩
   · exact ⟨_, by rw [hbs.2.reads.1]; rfl, hB8.mono fun _ h => .inl h⟩
 rintro e w9 ⟨v9, rfl, hb9, hE9, hw9⟩; rw [show [c.bytes, b].flatten = bd by rw [← HBE.out]; simp] at hb9; have hE10 := hE8.ext hE9; obtain ⟨a9, c9, rfl⟩ := hb9.len; replace HM := Hd (HM.out.new (r := readR (.slice a9 bd.length c9) bd) (G := fun k => w8.heap.size ≤ k ∧ k < w9.heap.size) hE9 ⟨hb9, fun k hk => hk.2⟩ (fun k hk => hk.1)); clear hb9 hw9 hE9 hB8 hD1 hbs; clear D1; refine hK _ _ ⟨ClsE.of (by assumption), ?_⟩; clear hK K; try simp only [nP]
 iterate 2 (refine pR rfl (fun W => by go_simp <;> with_reducible rfl) ?_; simp only [nP])
 refine plan_nil ?_; simp only [tailL, List.filterMap_cons, List.filterMap_nil, nL]; change wpList _ _ _ (_ :: []) _ _; clear fM; have fM := HM.out.fa; go_wp2_with fail; all_goals clear fM
 refine NoPanic.ok ?_; change wpF _ _ _ _ _ _ _ _
 clear hE8 hE10; refine nxt HM fun w10 M => ?_
 replace HM := M; clear M; have hm10 : Mem A w w10 [cellsR cb 112 (clC lv kv wv (.slice a9 bd.length c9) { c with bytes := bd }), readR (.slice a9 bd.length c9) bd, cellsR w7.heap.size 27 [.slice ab c.bytes.length cc, .slice a0 b.length c0], cellsR km 175 [.map (some mm)], mapR mm (hearsD cb), cellsR ke 24 [.int .i64 0], cellsR kn 3 [.int .i64 0], cellsR k2 23 [.pointer (some ⟨cb, 0, none⟩)], linR lv kv c.m.lines c.k.lines, rowR tenE wv c.waits, readR (.slice ab c.bytes.length cc) c.bytes] := HM.out; obtain ⟨d, hd⟩ : ∃ d, ({ c with bytes := bd } : Cl) = d := ⟨_, rfl⟩; have HD := Hd hd; have hmd := Mem.clClose (c := { c with bytes := bd }) (L := [cellsR km 175 [.map (some mm)], mapR mm (hearsD cb), cellsR ke 24 [.int .i64 0], cellsR kn 3 [.int .i64 0], cellsR k2 23 [.pointer (some ⟨cb, 0, none⟩)]]) (Mem.sub hm10 (by repeat first | exact Sub.nil | refine Sub.cons (by with_reducible repeat first | exact ph | apply pt) ?_)); rw [hd] at hmd; rw [HBE.out, hd] at HBD; replace HM := Hd hmd; clear hm10 hmd hd; refine wpF_seq trivial ?_; refine wpF_seq trivial (wpF_of trivial (wpIn_wide.2 ?_)); have fM := HM.out.fa; go_wp2_with fail; all_goals clear fM
 refine (csaid_any w10 cb).mono ?_; rintro e w11 ⟨kc, rfl, hU⟩; replace HM := Hd (HM.out.newU hU); clear hU; have fM := HM.out.fa; go_wp2_with fail; all_goals clear fM
 change wpF _ _ _ _ _ _ _ _
 refine wpF_block trivial ?_; have hz := (Mem.close (L1 := [cellsR kn 3 [.int .i64 0], cellsR ke 24 [.int .i64 0], cellsR k2 23 [.pointer (some ⟨cb, 0, none⟩)], cellsR km 175 [.map (some mm)], mapR mm (hearsD cb)]) (L := [cellsR kc 23 [.pointer (some ⟨cb, 0, none⟩)], clR cb d]) (r := hearZ cb kn ke k2 km mm 0) (Mem.sub HM.out (by repeat first | exact Sub.nil | refine Sub.cons (by with_reducible repeat first | exact ph | apply pt) ?_)) fun _ hA => hA); have ht := Mem.close (L1 := [cellsR kc 23 [.pointer (some ⟨cb, 0, none⟩)], clR cb d, hearZ cb kn ke k2 km mm 0]) (L := []) (r := hearT cb kc (hearZ cb kn ke k2 km mm) (d, 0)) (Mem.sub hz (by repeat first | exact Sub.nil | refine Sub.cons (by with_reducible repeat first | exact ph | apply pt) ?_)) fun _ hA => hA
 obtain ⟨hk0, G, hsep, hG⟩ := ht; have HIN := Hd (⟨hk0, hG⟩ : In A w G w11); have hx0 := tabX_ok.step HX.out hk0 hG; clear hz HM hk0 hG; refine wpF_rangeP trivial ⟨_, Tryz.func48⟩ rfl (by omega) (gf := 183) (lb := #[.pointer (some ⟨kc, 0, none⟩)]) rfl trivial (enters_of Tryz.func183 (by kernel_rfl) rfl) tabX_ok (iter_said cb kc (hearZ cb kn ke k2 km mm) d 0 HBD.out) (by rintro x v hv; rw [hv]; rfl) hsep hx0 ?_ ?_ ?_
 · rintro ⟨c', k⟩ x v F1 W hIn hT hok hv hlt
   unfold SaidY at hv; subst hv; have HM := Hd (Mem.start hT); have HOK := Hd hok; clear hT hok hsep hx0; unfold Sd.v Sd.cells; gi_wp2_with fail
   have hm := HM.out.to (w' := W.alloc (Obj.cells #[.int .i64 x.kind, .int .i64 x.member, .int .i64 x.number, .int .i64 x.index, .bool x.is, .string (bs x.text), .string (bs x.token), .int .i64 x.e.kind, .int .i64 x.e.member, .int .i64 x.e.number, .string (bs x.e.text)] 37)); refine ⟨_, hm.updAll, fun F2 W3 hIn3 hR3 hlt3 => ?_⟩; clear HM hm hIn3; obtain ⟨kx, hkx⟩ : ∃ q, W.heap.size = q := ⟨_, rfl⟩; rw [hkx] at hR3 ⊢; have h1 := ((Mem.ofSep hR3).pick (r := hearT cb kc (hearZ cb kn ke k2 km mm) (c', k)) pk).unall; have h2 : Mem F2 W3 W3 [cellsR kn 3 [.int .i64 (k : Int)], cellsR ke 24 [.int .i64 0], cellsR k2 23 [.pointer (some ⟨cb, 0, none⟩)], cellsR km 175 [.map (some mm)], mapR mm (hearsD cb), cellsR kc 23 [.pointer (some ⟨cb, 0, none⟩)], clR cb c', cellsR kx 37 x.cells] := (h1.pick (r := hearZ cb kn ke k2 km mm k) (.there (.there .here))).unall; have HM := Hd h2; clear hR3 hkx h1 h2; obtain ⟨_, hmap⟩ := HM.out.get (r := mapR mm (hearsD cb)) pk
   have hlk : (Instr.lookup 175 (.map (some mm)) (.int .i64 x.kind) true).run Tryz.prog W3 = .ok (.tuple #[(lookI (hearsD cb) x.kind nofn).1, .bool (lookI (hearsD cb) x.kind nofn).2]) W3 :=
    MapI.look hmap.2 Tryz.underlying175 Tryz.underlying32 zeroFnH HOK.out.2.2.2.2.2 (by unfold hearsD; simp) true
   clear hmap; by_cases hk8 : 8 ≤ x.kind ∧ x.kind ≤ 12
   · obtain ⟨f, hf, hen, hcall⟩ := hear_call cb c' x HOK.out.2.2.2.1 hk8 HOK.out.2.1 HOK.out.2.2.1
     rw [hf] at hlk; have HCL := Hd hcall; clear hk8 hcall hf; have fM := HM.out.fa; gi_wp2_with fail
     refine ⟨trivial, calls_inRound ((cmust_ok _ 372).mono ?_)⟩; rintro e w9 ⟨rfl, hw⟩; rw [hw]; clear hw w9; gi_wp2_with fail
     clear fM; clear hlk hen; obtain ⟨C, hC, hS⟩ := (HM.out.pick (r := clR cb c') pk).step; have hcl := HCL.out C W3 hC; unfold Sd.v Sd.cells at hcl; refine ⟨trivial, calls_inRound (hcl.mono ?_)⟩; rintro e w4 ⟨rfl, hU⟩; replace HM := Hd (hS _ _ hU); clear hU hS hC hcl; clear C; by_cases hq : (c'.hear x).2.2 = 0
     · rw [if_pos hq]
       cases hb : (c'.hear x).2.1
       · have HRD := Hd (show hearRnd (c', k) x = (((c'.hear x).1, k), none) by unfold hearRnd; dsimp only; rw [if_pos hq, hb]; rfl)
         clear hq hb; gi_wp2_with fail
         refine ⟨by rw [HRD.out], ?_⟩; rw [HRD.out]; exact closeH (Mem.sub HM.out (by repeat first | exact Sub.nil | refine Sub.cons (by with_reducible repeat first | exact ph | apply pt) ?_))
       · have HRD := Hd (show hearRnd (c', k) x = (((c'.hear x).1, k + 1), none) by unfold hearRnd; dsimp only; rw [if_pos hq, hb]; rfl)
         have hkb : (k : Int) < 1000000000 := by have := HOK.out.1; dsimp only at this; omega
         clear hq hb; have fM := HM.out.fa; gi_wp2_with fail
         clear fM; refine ⟨by rw [HRD.out], ?_⟩; rw [HRD.out]; refine nxt HM fun w5 M => ?_
         replace HM := M; clear M; rw [show ((k : Int) + 1) = ((k + 1 : Nat) : Int) from rfl] at HM; exact closeH (k := k + 1) (Mem.sub HM.out (by repeat first | exact Sub.nil | refine Sub.cons (by with_reducible repeat first | exact ph | apply pt) ?_))
     · rw [if_neg hq]
       have HRD := Hd (show hearRnd (c', k) x = (((c'.hear x).1, k), some (errP (c'.hear x).2.2)) by unfold hearRnd; dsimp only; rw [if_neg hq]); clear hq; refine ⟨by rw [HRD.out], rfl, ?_⟩; rw [HRD.out]; exact closeH (Mem.sub HM.out (by repeat first | exact Sub.nil | refine Sub.cons (by with_reducible repeat first | exact ph | apply pt) ?_))
   · obtain ⟨hln, hhr⟩ := hear_none cb c' x hk8
     rw [hln] at hlk; have HRD := Hd (show hearRnd (c', k) x = ((c', k), some (errP 372)) by unfold hearRnd; dsimp only; rw [hhr]; rfl); clear hk8 hhr hln; have fM := HM.out.fa; gi_wp2_with fail
     clear fM; refine ⟨trivial, calls_inRound ((cmust_no _ 372).mono ?_)⟩; rintro e w9 ⟨rfl, hw⟩; rw [hw]; clear hw w9; refine ⟨by rw [HRD.out], rfl, ?_⟩; rw [HRD.out]; exact closeH (Mem.sub HM.out (by repeat first | exact Sub.nil | refine Sub.cons (by with_reducible repeat first | exact ph | apply pt) ?_))
 · intro W hfin hM
   obtain ⟨hno, hfe⟩ := hearFin_none hfin; rw [hfe] at hM; have HNO := Hd hno; have hm := openH (Mem.pre HIN.out hM); obtain ⟨d2, hd2⟩ : ∃ q, d.all 0 = q := ⟨_, rfl⟩; have hm2 : Mem A w W [cellsR kn 3 [.int .i64 (((d.all 0).2.1 : Nat) : Int)], cellsR ke 24 [.int .i64 0], cellsR k2 23 [.pointer (some ⟨cb, 0, none⟩)], cellsR km 175 [.map (some mm)], mapR mm (hearsD cb), cellsR kc 23 [.pointer (some ⟨cb, 0, none⟩)], clR cb (d.all 0).1, markR w11.heap.size] := hm; rw [hd2] at hm2; have HM := Hd hm2; have HD2 := Hd hd2; clear hm hm2 hM hfin hfe hno hd2 hsep hx0; change wpF _ _ _ _ _ _ _ _
   refine wpF_of trivial (wpIn_wide.2 ?_); have fM := HM.out.fa; go_wp2_with fail; all_goals clear fM
   refine nxt HM fun W2 M => ?_
   replace HM := M; clear M
   have HE := Hd (show c.hears b = d2 by
    have h1 := HD2.out; have h2 := HNO.out; rw [h1] at h2; unfold Cl.hears; rw [if_neg (by rw [hon]; simp), HBE.out, HD.out, h1, if_neg (fun h => h h2)])
   have hmk : Mark W2 w11.heap.size := by
    obtain ⟨_, h⟩ := HM.out.get (r := markR w11.heap.size) pk; exact h.2
   refine leavesM_mark (by intro h; cases h) hmk ?_; intro W3 hk3; replace HM := Hd ((HM.out.pick (r := markR w11.heap.size) pk).unmark hk3); clear hmk hk3; refine leavesM_cons (f := 115) (args := h1Args ke k2) (by intro h; cases h) (enters_of Tryz.func115 (by kernel_rfl) rfl _ _) ?_; refine callsDIn_mono (hear1_none W3 ke k2) ?_; rintro r u wq ⟨rfl, rfl, rfl⟩; obtain ⟨_, hb1⟩ := HM.out.get (r := cellsR kn 3 _) (by with_reducible repeat first | exact ph | apply pt); obtain ⟨_, hb2⟩ := HM.out.get (r := cellsR ke 24 _) (by with_reducible repeat first | exact ph | apply pt); have q1 := hb1.2.reads.1; have q2 := hb2.2.reads.1; rw [HE.out]; have hno := HNO.out; rw [HD2.out] at hno; refine ⟨.tuple #[.int .i64 (d2.2.1 : Int), .int .i64 0], ?_, by rw [hno], (HM.out.pick (r := clR cb d2.1) pk).upd⟩; simp [results, Tryz.results48, go_sem, q1, q2]
 · intro W ch hfin hM
   obtain ⟨hno, rfl, hfe⟩ := hearFin_some hfin; rw [hfe] at hM; have HNO := Hd hno; have hm := openH (Mem.pre HIN.out hM); obtain ⟨d2, hd2⟩ : ∃ q, d.all 0 = q := ⟨_, rfl⟩; have hm2 : Mem A w W [cellsR kn 3 [.int .i64 (((d.all 0).2.1 : Nat) : Int)], cellsR ke 24 [.int .i64 0], cellsR k2 23 [.pointer (some ⟨cb, 0, none⟩)], cellsR km 175 [.map (some mm)], mapR mm (hearsD cb), cellsR kc 23 [.pointer (some ⟨cb, 0, none⟩)], clR cb (d.all 0).1, markR w11.heap.size] := hm; dsimp only at hno ⊢; rw [hd2] at hm2 hno ⊢; have HM := Hd hm2; have HD2 := Hd hd2
   have HE := Hd (show c.hears b = (d2.1.ended d2.2.2, d2.2) by
    have h1 := HD2.out; unfold Cl.hears; rw [if_neg (by rw [hon]; simp), HBE.out, HD.out, h1, if_pos hno])
   clear hm hm2 hM hfin hfe hno hd2 hsep hx0; show LeavesInM _ _ _ _ _ _ _ _ _
   obtain ⟨W2, hW2⟩ : ∃ x, x = W := ⟨_, rfl⟩; subst hW2
   have hmk : Mark W2 w11.heap.size := by
    obtain ⟨_, h⟩ := HM.out.get (r := markR w11.heap.size) pk; exact h.2
   refine leavesM_mark (by intro h; cases h) hmk ?_; intro W3 hk3; replace HM := Hd ((HM.out.pick (r := markR w11.heap.size) pk).unmark hk3); clear hmk hk3; refine leavesM_cons (f := 115) (args := h1Args ke k2) (by intro h; cases h) (enters_of Tryz.func115 (by kernel_rfl) rfl _ _) ?_; obtain ⟨C, hC, hCI, hS⟩ := Mem.stepN (L1 := [cellsR ke 24 [.int .i64 0], cellsR k2 23 [.pointer (some ⟨cb, 0, none⟩)], clR cb d2.1]) (L := [cellsR kn 3 [.int .i64 (d2.2.1 : Int)]]) (Mem.sub HM.out (by repeat first | exact Sub.nil | refine Sub.cons (by with_reducible repeat first | exact ph | apply pt) ?_)); refine callsDIn_mono (hear1_err W3 ke k2 cb d2.1 0 d2.2.2 hC) ?_; rintro r u wq ⟨rfl, rfl, hq⟩; have hq2 := (hS (allR [cellsR ke 24 [.int .i64 d2.2.2], cellsR k2 23 [.pointer (some ⟨cb, 0, none⟩)], clR cb (d2.1.ended d2.2.2)]) wq hq.updAll).unall; have HM2 : Mem A w wq [cellsR ke 24 [.int .i64 d2.2.2], cellsR k2 23 [.pointer (some ⟨cb, 0, none⟩)], clR cb (d2.1.ended d2.2.2), cellsR kn 3 [.int .i64 (d2.2.1 : Int)]] := hq2; obtain ⟨_, hb1⟩ := HM2.get (r := cellsR kn 3 [.int .i64 (d2.2.1 : Int)]) pk; obtain ⟨_, hb2⟩ := HM2.get (r := cellsR ke 24 [.int .i64 d2.2.2]) pk; have q1 := hb1.2.reads.1; have q2 := hb2.2.reads.1; rw [HE.out]; refine ⟨.tuple #[.int .i64 (d2.2.1 : Int), .int .i64 d2.2.2], ?_, rfl, (HM2.pick (r := clR cb (d2.1.ended d2.2.2)) pk).upd⟩; simp [results, Tryz.results48, go_sem, q1, q2]
end
section
attribute [local go_sem] Oper.semAt_some
theorem chear_any {A B : Nat → Prop} (w : World) (cb : Nat) (c : Cl) (v : Value) (b : List UInt8) (h : (clR cb c).p A w) (hX : TabX A w) (hb : Bytes w B v b) (hBA : ∀ k, B k → ¬ A k) (hbd : HearB { c with bytes := c.bytes ++ b } 0) :
 Calls Tryz.prog 48 #[.pointer (some ⟨cb, 0, none⟩), v] w fun e w' => e = .returned (.tuple #[.int .i64 ((c.hears b).2.1 : Int), .int .i64 (c.hears b).2.2]) ∧ Upd A w w' (clR cb (c.hears b).1) := by
 cases hon : c.on
 case true => exact chear_on w cb c v b h hX hb hBA hbd hon
 obtain ⟨a0, c0, rfl⟩ := hb.len; have HS := Hd (show c.hears b = (c, 0, 380) by unfold Cl.hears; rw [if_pos hon]); obtain ⟨lv, kv, wv, bv, hm⟩ := (Mem.start h).clOpen; have HM := Hd hm; clear h hX hb hBA hbd hm; refine (callsIn_wide (n := 9)).1 (callsIn_of_wpF Tryz.func48 rfl trivial ?_ rfl); simp only [Tryz.ntmps48, List.size_toArray, List.length_cons, List.length_nil, Nat.reduceAdd, Nat.reduceSub, Array.replicate_succ, Array.replicate_zero, List.push_toArray, List.append_toArray, List.nil_append, List.cons_append]; refine wpF_seq trivial (wpF_of trivial (wpIn_wide.2 ?_)); have fM := HM.out.fa; go_wp2_with fail; all_goals clear fM
 refine nxt HM fun w1 M => ?_
 replace HM := M; clear M; obtain ⟨k2, hk2⟩ : ∃ k, w.heap.size = k := ⟨_, rfl⟩; obtain ⟨kn, hkn⟩ : ∃ k, w.heap.size + 1 = k := ⟨_, rfl⟩; obtain ⟨ke, hke⟩ : ∃ k, w.heap.size + 1 + 1 = k := ⟨_, rfl⟩; rw [hke, hkn, hk2] at HM ⊢; clear hke hkn hk2; refine wpF_seq trivial (wpF_of trivial (wpIn_wide.2 ?_)); have fM := HM.out.fa; go_wp2_with fail; all_goals clear fM
 obtain ⟨_, hbx⟩ := HM.out.get (r := cellsR cb 112 (clC lv kv wv bv c)) pk; refine (cnone_at w1 cb true (hbx.2.reads.1 44)).mono ?_; rintro e w2 ⟨rfl, hw⟩; rw [hw]; clear hw w2 hbx; have fM := HM.out.fa; go_wp2_with fail; all_goals clear fM
 change LeavesInM _ _ _ _ _ _ _ _ _
 refine nxt HM fun w3 M => ?_
 replace HM := M; clear M; obtain ⟨_, hb1⟩ := HM.out.get (r := cellsR kn 3 _) (by with_reducible repeat first | exact ph | apply pt); obtain ⟨_, hb2⟩ := HM.out.get (r := cellsR ke 24 _) (by with_reducible repeat first | exact ph | apply pt); have q1 := hb1.2.reads.1; have q2 := hb2.2.reads.1; rw [HS.out]; refine ⟨.tuple #[.int .i64 0, .int .i64 380], ?_, rfl, (Mem.clClose (cb := cb) (c := c) (L := []) (Mem.sub HM.out (by repeat first | exact Sub.nil | refine Sub.cons (by with_reducible repeat first | exact ph | apply pt) ?_))).upd⟩; simp [results, Tryz.results48, go_sem, q1, q2]
end
end Go.Proofs.YtoadjbgpfihoiaaGreatDoor
