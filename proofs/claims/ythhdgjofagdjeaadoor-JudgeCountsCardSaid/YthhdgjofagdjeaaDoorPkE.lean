/- Texts JN, JO, JP, JQ, JR, JS, JU, JV, JW, one behind the other. Conditions: as each says. -/
import Derived.Test.YthhdgjofagdjeaaDoorPkD
section
/- The talk of nothing. No condition. -/
set_option linter.unusedVariables false
set_option linter.unusedSimpArgs false
set_option maxHeartbeats 1000000
set_option maxRecDepth 100000
namespace Go.Proofs.YthhdgjofagdjeaaDoor
open Go.RowKit

def T0 : TA := ⟨[], 0, List.replicate 16 ⟨false, 0, 0⟩⟩
theorem build_talk (w : World) : (Instr.build 93 #[(3, Value.bool true)]).run Tryd.prog w = .ok (.agg (T0.cells (.slice none 0 0)).toArray) w := by kernel_rfl
theorem talk_new (w : World) : Calls Tryd.prog 16 #[.slice none 0 0] w fun e w' => ∃ b F, e = .returned (.tuple #[.pointer (some ⟨b, 0, none⟩), .int .i64 0]) ∧ TalkX w' F b T0 ∧ Ext w w' ∧ ∀ k, F k → w.heap.size ≤ k := by
  go_enter Tryd.func16, Tryd.ntmps16
  go_wp2_with first
    | (refine wpList_build_wide 93 (v := .agg (T0.cells (.slice none 0 0)).toArray) rfl rfl (build_talk _) ?_)
    | (refine wpList_box_wide 93 (vs := T0.cells (.slice none 0 0)) _ rfl rfl rfl ?_; intro w1 hB1 hE1 hs1; replace hs1 := Lib.hid hs1; replace hB1 := Lib.hid hB1; replace hE1 := Lib.hid hE1; refine standing ?_)
  refine ⟨?_⟩
  go_wp2_with fail
  refine wp_loop_rounds 1 ?_
  rw [rounds_succ]
  go_wp2_with fail
  go_ret2
  refine ⟨w.heap.size, OneB w.heap.size, rfl, ⟨.slice none 0 0, hB1.out, Win.nil _ _ _, rfl, fun g hg => (by cases hg), fun k hk => ?_, rfl⟩, hE1.out, fun k hk => ?_⟩
  · have h1 := hs1.out
    have h2 : k = w.heap.size := hk
    omega
  · have h2 : k = w.heap.size := hk
    omega
end Go.Proofs.YthhdgjofagdjeaaDoor
end
section
/- The judge of nothing. No condition. -/
set_option linter.unusedVariables false
set_option linter.unusedSimpArgs false
set_option maxHeartbeats 1000000
set_option maxRecDepth 100000
namespace Go.Proofs.YthhdgjofagdjeaaDoor
open Go.RowKit

def J0 (c m : Int) : JA := ⟨c, m, T0, List.replicate 9 0, List.replicate 16 (-1), [], 0⟩
def J0k (c m : Int) (k : Nat) : JA := ⟨c, m, T0, List.replicate 9 0, List.replicate k (-1) ++ List.replicate (16 - k) 0, [], 0⟩
theorem infoMap72 : Tryd.prog.underlying 72 = some (.map 35 4) := Tryd.underlying72
theorem build_judge (w : World) (c m : Int) (tb mb : Nat) : (Instr.build 76 #[(1, .int .i64 c), (2, .int .i64 m), (3, .pointer (some ⟨tb, 0, none⟩)), (4, .map (some mb))]).run Tryd.prog w = .ok (.agg ((J0k c m 0).cells tb mb).toArray) w := by kernel_rfl
theorem J0k_set (c m : Int) (k : Nat) (hk : k < 16) (tb mb : Nat) : ((J0k c m k).cells tb mb).set (9 + k) (.int .i64 (-1)) = (J0k c m (k + 1)).cells tb mb := by
  obtain rfl | rfl | rfl | rfl | rfl | rfl | rfl | rfl | rfl | rfl | rfl | rfl | rfl | rfl | rfl | rfl : k = 0 ∨ k = 1 ∨ k = 2 ∨ k = 3 ∨ k = 4 ∨ k = 5 ∨ k = 6 ∨ k = 7 ∨ k = 8 ∨ k = 9 ∨ k = 10 ∨ k = 11 ∨ k = 12 ∨ k = 13 ∨ k = 14 ∨ k = 15 := by omega
  all_goals rfl
theorem judge_new_ok (w : World) (c m : Int) (hc : RightC c) (h1 : 1 ≤ m) (h2 : m ≤ 16) :
    Calls Tryd.prog 11 #[.int .i64 c, .int .i64 m] w fun e w' => ∃ b F, e = .returned (.tuple #[.pointer (some ⟨b, 0, none⟩), .int .i64 0]) ∧ JudgeX w' F b (J0 c m) ∧ Ext w w' ∧ ∀ k, F k → w.heap.size ≤ k := by
  have g1 : ¬ m < 1 := by omega
  have g2 : ¬ 16 < m := by omega
  go_enter Tryd.func11, Tryd.ntmps11
  go_wp2_with fail
  refine (check_any w c).mono ?_
  rintro e w1 ⟨rfl, hE⟩
  have HE := Lib.hid hE
  clear hE
  rw [if_pos hc]
  go_wp2_with fail
  refine (talk_new w1).mono ?_
  rintro e w2 ⟨tb, Ft, rfl, hT, hE2, hF⟩
  have HT := Lib.hid hT
  have HE2 := Lib.hid hE2
  have HF := Lib.hid hF
  clear hT hE2 hF g1 g2
  have hmm := run_makeMap (P := Tryd.prog) 72 w2
  go_wp2_with first
    | (refine wpList_build_wide 76 (v := .agg ((J0k c m 0).cells tb w2.heap.size).toArray) rfl rfl (build_judge _ c m tb w2.heap.size) ?_)
    | (refine wpList_box_wide 76 (vs := (J0k c m 0).cells tb w2.heap.size) _ rfl rfl rfl ?_; intro w3 hB3 hE3 hs3; refine standing ?_)
  have hB4 : Box w3 (w2.heap.size + 1) 76 ((J0k c m 0).cells tb w2.heap.size) := by simpa using hB3
  have hE23 : Ext w2 w3 := ((Keeps.refl NoB w2).alloc _).ext hE3
  have hM := (enset_new w2).ext hE3
  have HTL := Lib.hid (show ∀ k, Ft k → k < w2.heap.size from let ⟨_, h⟩ := HT.out; h.lt)
  replace HT := Lib.hid (HT.out.ext hE23)
  have HEE := Lib.hid ((HE.out.ext HE2.out).ext hE23)
  obtain ⟨mb, hmb⟩ : ∃ mb, w2.heap.size = mb := ⟨_, rfl⟩
  have HMB := Lib.hid hmb
  rw [hmb] at hB4 hM ⊢
  have HB := Lib.hid hB4
  have HM := Lib.hid hM
  have H3 := Lib.hid hs3
  clear hB3 hE3 hs3 hB4 hE23 hM hmm hmb
  refine ⟨?_⟩
  go_wp2_with fail
  have HR : Hid (Box w3 (mb + 1) 76 ((J0k c m 0).cells tb mb) ∧ Keeps (OneB (mb + 1)) w3 w3) := Lib.hid ⟨HB.out, Keeps.refl _ _⟩
  clear HB
  go_loopw [31] (fun i wr => ∃ k : Nat, k ≤ 16 ∧ i = .int .i64 k ∧ Hid (Box wr (mb + 1) 76 ((J0k c m k).cells tb mb) ∧ Keeps (OneB (mb + 1)) w3 wr)) (fun i _ => 16 - (intOf i).toNat)
  case atStart => exact ⟨0, Nat.zero_le _, rfl, HR⟩
  case round =>
    obtain ⟨k, hk, rfl, hh⟩ := hrel
    obtain ⟨hb, hkk⟩ := hh.out
    have HB := Lib.hid hb
    have HK := Lib.hid hkk
    clear hh hb hkk HR
    by_cases hlt : k < 16
    · have z0 := HB.out.reads.2
      have l0 := HB.out.lt
      have c0 : ∃ u, wr.cell? ⟨mb + 1, 9 + k, none⟩ = some u := by
        rw [HB.out.reads.1]
        exact ⟨_, (JA.at (J0k c m k) tb mb rfl (by simp [J0k]; omega)).2.1 k hlt⟩
      obtain ⟨u, hu⟩ := c0
      have g3 : (k : Int) < 16 := by omega
      have g4 : ¬ (k : Int) < 0 := by omega
      go_wp2_with fail
      go_roundw
      case rel => exact ⟨k + 1, by omega, by go_num, Lib.hid ⟨by have h := HB.out.set (9 + k) (.int .i64 (-1)); rw [J0k_set _ _ _ hlt] at h; exact h, HK.out.setOne _ _⟩⟩
      case measure => simp [intOf]; omega
    · obtain rfl : k = 16 := by omega
      go_wp2_with fail
      go_ret2
      have s1 := HE.out.size
      have s2 := HE2.out.size
      have s3 : w3.heap.size = mb + 1 + 1 := by have h := H3.out; rw [← HMB.out]; simpa using h
      have s4 := HK.out.size
      have s5 := HMB.out
      have tl := HTL.out
      have hf := HF.out
      refine ⟨mb + 1, fun k => Ft k ∨ k = mb ∨ k = mb + 1, rfl, ⟨Ft, tb, mb, ⟨HB.out, HT.out.keeps HK.out (fun k hk h => ?_), HM.out.keeps HK.out (fun h => ?_), .inr (.inr rfl), .inr (.inl rfl), fun k hk => .inl hk, fun h => ?_, fun h => ?_, by omega, fun k hk => ?_, rfl, rfl⟩⟩, HEE.out.then HK.out (fun i hi h => ?_), fun k hk => ?_⟩
      · have := tl k hk; have h9 : k = mb + 1 := h; omega
      · have h9 : mb = mb + 1 := h; omega
      · have := tl _ h; omega
      · have := tl _ h; omega
      · rcases hk with hk | hk | hk
        · have := tl k hk; omega
        · omega
        · omega
      · have h9 : i = mb + 1 := h; omega
      · rcases hk with hk | hk | hk
        · have := hf k hk; omega
        · omega
        · omega
end Go.Proofs.YthhdgjofagdjeaaDoor
end
section
/- The whole of a judge: a function over a copy. Condition: the judge lies as 'JudgeAt' says. -/
set_option linter.unusedVariables false
set_option linter.unusedSimpArgs false
set_option maxHeartbeats 1000000
set_option maxRecDepth 10000
namespace Go.Proofs.YthhdgjofagdjeaaDoor
open Go.RowKit

theorem whole_any {F : Nat → Prop} (w : World) (b : Nat) (J : JA) (h : JudgeX w F b J) (hl : J.T.l.length ≤ 4096) : Calls Tryd.prog 15 #[.pointer (some ⟨b, 0, none⟩)] w fun e w' => ∃ q b' F', e = .returned (.func (.func 33) #[] #[.pointer (some ⟨q, 0, none⟩)]) ∧ Box w' q 63 [.pointer (some ⟨b', 0, none⟩)] ∧ TalkX w' F' b' J.T ∧ Ext w w' ∧ w.heap.size ≤ q ∧ ∀ k, F' k → w.heap.size ≤ k := by
  have HX := Lib.hid h
  clear h
  go_enter Tryd.func15, Tryd.ntmps15
  go_wp2_with fail
  refine (judge_none w b J HX.out).mono ?_
  rintro e w' ⟨rfl, rfl⟩
  obtain ⟨Ft, tb, mb, h⟩ := HX.out
  obtain ⟨c25, c26, c27, c28, c29, lt⟩ := h.see
  have HT := Lib.hid h.talk
  clear h c25 c26 c27 c29
  go_wp2_with fail
  refine (talk_copy w' tb J.T HT.out hl).mono ?_
  rintro e w1 ⟨b', F', rfl, hT, hE, hF⟩
  have HT1 := Lib.hid hT
  have HE := Lib.hid hE
  have HF := Lib.hid hF
  clear hT hE hF c28 lt
  have hmf : ∀ (fn : Fn) (first cap : Array Value) (w : World), (Instr.makeFunc fn first cap).run Tryd.prog w = .ok (.func fn first cap) w := fun _ _ _ _ => rfl
  go_wp2_with fail
  have bx0 := (Box.new w1 63 [.pointer (some ⟨b', 0, none⟩)])
  have ex : Ext w1 (w1.alloc (Obj.cells #[.pointer (some ⟨b', 0, none⟩)] 63)) := ((Keeps.refl NoB w1).alloc _)
  have sx : (w1.alloc (Obj.cells #[.pointer (some ⟨b', 0, none⟩)] 63)).heap.size = w1.heap.size + 1 := by simp
  generalize (w1.alloc (Obj.cells #[.pointer (some ⟨b', 0, none⟩)] 63)) = w2 at bx0 ex sx ⊢
  have Sx := Lib.hid sx
  clear sx
  go_ret
  exact ⟨w1.heap.size, b', F', rfl, bx0, HT1.out.ext ex, HE.out.ext ex, HE.out.size, HF.out⟩
end Go.Proofs.YthhdgjofagdjeaaDoor
end
section
/- What a judge's whole hands on, one by one. Condition: the function lies over a copy, as 'WholeV' says. -/
set_option linter.unusedVariables false
set_option linter.unusedSimpArgs false
set_option maxHeartbeats 1000000
set_option maxRecDepth 10000
namespace Go.Proofs.YthhdgjofagdjeaaDoor
open Go.RowKit

def wholeL (l : List Ln) : List (Int × En) := l.zipIdx.map fun p => ((p.2 : Int), p.1.e)
theorem wholeL_len (l : List Ln) : (wholeL l).length = l.length := by simp [wholeL]
theorem wholeL_get (l : List Ln) (k : Nat) (hk : k < (wholeL l).length) : (wholeL l)[k] = ((k : Int), (l[k]'(by rw [wholeL_len] at hk; exact hk)).e) := by simp [wholeL]
def HandsOn (p : Int × En) (v : Array Value) (_ _ : World) : Prop := v = #[.int .i64 p.1, p.2.v]
theorem iter_whole {F S : Nat → Prop} (w0 : World) (q b : Nat) (T : TA) (hb : Box w0 q 63 [.pointer (some ⟨b, 0, none⟩)]) (hT : TalkX w0 F b T) (hS : ¬ S q) (hF : ∀ k, F k → ¬ S k) (hl : T.l.length ≤ 4096) :
    IterOK Fence.wide 8 Tryd.prog 33 #[.pointer (some ⟨q, 0, none⟩)] (wholeL T.l) HandsOn S w0 := by
  intro ll J Jx W hll hJk hJs hJ hJx hround h0
  have hk0 := hJk 0 W h0
  rw [wholeL_len]
  have HB := Lib.hid hb
  have HT := Lib.hid hT
  have HR := Lib.hid hround
  have HJk := Lib.hid hJk
  have HJs := Lib.hid hJs
  have HJ := Lib.hid hJ
  have hB0 := Lib.hid (hb.keeps hk0 hS)
  have hT0 := Lib.hid (hT.keeps hk0 hF)
  clear hround hJk hJs hJ hk0 hb hT
  refine callsIn_of_wp Tryd.func33 rfl trivial ?_ rfl
  simp only [Tryd.ntmps33, List.size_toArray, List.length_cons, List.length_nil, Nat.reduceAdd, Nat.reduceSub, Array.replicate_succ, Array.replicate_zero, List.push_toArray, List.append_toArray, List.nil_append, List.cons_append]
  refine wpIn_scope ?_
  gi_wp2
  refine wpIn_label ?_
  obtain ⟨chB0, zhB0⟩ := hB0.out.reads
  have lhB0 := hB0.out.lt
  gi_wp2_with fail
  refine ⟨trivial, callsIn_wide.2 ((talk_len _ b T hT0.out).mono ?_)⟩
  rintro e w' ⟨rfl, rfl⟩
  clear chB0 zhB0 lhB0
  gi_wp2_with fail
  gi_loopw [8] (fun t wr => ∃ k : Nat, k ≤ T.l.length ∧ t = .int .i64 k ∧ Hid (J k wr)) (fun t _ => T.l.length - (intOf t).toNat)
  case atStart => exact ⟨0, by omega, rfl, h0⟩
  case round =>
    obtain ⟨k, hk, rfl, hj⟩ := hrel
    by_cases hlt : k < T.l.length
    · have hkr := HJk.out k wr hj.out
      have hBr := Lib.hid (HB.out.keeps hkr hS)
      have hTr := Lib.hid (HT.out.keeps hkr hF)
      clear hkr
      have HYK := Lib.hid (HR.out k (by rw [wholeL_len]; exact hlt))
      rw [wholeL_get] at HYK
      obtain ⟨chBr, zhBr⟩ := hBr.out.reads
      have lhBr := hBr.out.lt
      gi_wp2_with fail
      refine ⟨trivial, callsIn_wide.2 ((talk_line wr b T k hTr.out hlt).mono ?_)⟩
      rintro e W2 ⟨rfl, hW⟩
      clear chBr zhBr lhBr
      generalize hx : T.l[k] = x at *
      have HW := Lib.hid hW
      clear hW hx
      unfold Ln.v
      gi_wp2_with fail
      have e2 : Ext wr (W2.alloc (Obj.cells #[.int .i64 x.idx, .int .i64 x.slot, .int .i64 x.e.kind, .int .i64 x.e.member, .int .i64 x.e.number, .string (bs x.e.text)] 58)) := HW.out.alloc _
      obtain ⟨fn, tmps, assign, body, hy, hRd⟩ := HYK.out _ wr _ hj.out e2 rfl
      have HRd := Lib.hid hRd
      clear hRd e2
      unfold En.v at hy
      gi_wp2_with fail
      refine HRd.out.mono ?_
      rintro e W3 (⟨rfl, hJ3⟩ | ⟨rfl, hJx3⟩)
      · have HJ3 := Lib.hid hJ3
        clear hJ3
        gi_wp2_with fail
        go_roundw
        case rel => exact ⟨k + 1, by omega, by go_num, HJ3.out⟩
        case measure => simp [intOf]; omega
      · have HJ3 := Lib.hid hJx3
        clear hJx3
        gi_wp2_with fail
        rw [Exit.noGoto_normal]
        refine bodyPost_end (results_none rfl _ _ _) rfl ?_
        exact ⟨⟨_, rfl⟩, .inr ⟨k, hlt, HJ3.out⟩⟩
    · have HF : Hid (J T.l.length wr) := by
        obtain rfl : k = T.l.length := by omega
        exact hj
      gi_wp2_with fail
      rw [Exit.noGoto_normal]
      refine bodyPost_end (results_none rfl _ _ _) rfl ?_
      exact ⟨⟨_, rfl⟩, .inl HF.out⟩
end Go.Proofs.YthhdgjofagdjeaaDoor
end
section
/- Has the whole an entry at a place? Condition: the judge lies as 'JudgeAt' says. -/
set_option linter.unusedVariables false
set_option linter.unusedSimpArgs false
set_option maxHeartbeats 2000000
set_option maxRecDepth 100000
namespace Go.Proofs.YthhdgjofagdjeaaDoor
open Go.RowKit
attribute [local go_sem] Oper.semAt_some

def hasB (l : List Ln) (i : Int) (e : En) : Bool := decide (0 ≤ i) && decide (l[i.toNat]?.map (·.e) = some e)
theorem hasB_at (l : List Ln) (k : Nat) (hk : k < l.length) (e : En) : hasB l (k : Int) e = decide (l[k].e = e) := by
  unfold hasB
  rw [decide_eq_true (show (0 : Int) ≤ (k : Int) by omega), Bool.true_and, Int.toNat_natCast, List.getElem?_eq_getElem hk]
  simp
theorem hasB_none (l : List Ln) (i : Int) (e : En) (h : ∀ j : Nat, j < l.length → (j : Int) ≠ i) : hasB l i e = false := by
  unfold hasB
  by_cases h0 : 0 ≤ i
  · have : ¬ i.toNat < l.length := fun h1 => h _ h1 (by omega)
    rw [List.getElem?_eq_none (by omega)]
    simp
  · rw [decide_eq_false h0, Bool.false_and]
theorem has_any {F : Nat → Prop} (w : World) (b : Nat) (J : JA) (i : Int) (e : En) (h : JudgeX w F b J) (hl : J.T.l.length ≤ 4096) :
    Calls Tryd.prog 47 #[.pointer (some ⟨b, 0, none⟩), .int .i64 i, e.v] w fun r w' => r = .returned (.bool (hasB J.T.l i e)) ∧ Ext w w' := by
  refine (callsIn_wide (n := 9)).1 (callsIn_of_wp_marks Tryd.func47 rfl trivial ?_ rfl)
  simp only [Tryd.ntmps47, List.size_toArray, List.length_cons, List.length_nil, Nat.reduceAdd, Nat.reduceSub, Array.replicate_succ, Array.replicate_zero, List.push_toArray, List.append_toArray, List.nil_append, List.cons_append]
  have HX := Lib.hid h
  clear h
  unfold En.v
  gi_wp2_with fail
  have ba0 := (((Box.new w 2 [.int .i64 i]).alloc (Obj.cells #[.int .i64 e.kind, .int .i64 e.member, .int .i64 e.number, .string (bs e.text)] 35)).alloc (Obj.cells #[.bool false] 4))
  have ba1 := ((Box.new (w.alloc (Obj.cells #[.int .i64 i] 2)) 35 [.int .i64 e.kind, .int .i64 e.member, .int .i64 e.number, .string (bs e.text)]).alloc (Obj.cells #[.bool false] 4))
  have ba2 := (Box.new ((w.alloc (Obj.cells #[.int .i64 i] 2)).alloc (Obj.cells #[.int .i64 e.kind, .int .i64 e.member, .int .i64 e.number, .string (bs e.text)] 35)) 4 [.bool false])
  have ea : Ext w (((w.alloc (Obj.cells #[.int .i64 i] 2)).alloc (Obj.cells #[.int .i64 e.kind, .int .i64 e.member, .int .i64 e.number, .string (bs e.text)] 35)).alloc (Obj.cells #[.bool false] 4)) := ((((Keeps.refl NoB w).alloc _).alloc _).alloc _)
  have sa : (((w.alloc (Obj.cells #[.int .i64 i] 2)).alloc (Obj.cells #[.int .i64 e.kind, .int .i64 e.member, .int .i64 e.number, .string (bs e.text)] 35)).alloc (Obj.cells #[.bool false] 4)).heap.size = w.heap.size + 3 := by simp
  simp only [World.size_alloc] at ba1 ba2
  generalize (((w.alloc (Obj.cells #[.int .i64 i] 2)).alloc (Obj.cells #[.int .i64 e.kind, .int .i64 e.member, .int .i64 e.number, .string (bs e.text)] 35)).alloc (Obj.cells #[.bool false] 4)) = w0 at ba0 ba1 ba2 ea sa ⊢
  have Sa := Lib.hid sa
  clear sa
  have BA := Lib.hid ba0
  have BB := Lib.hid ba1
  have BC := Lib.hid ba2
  have HE := Lib.hid ea
  have hs0 := ba2.lt
  clear ba0 ba1 ba2 ea
  refine ⟨trivial, callsIn_wide.2 ((whole_any w0 b J (HX.out.ext HE.out) hl).mono ?_)⟩
  rintro r w7 ⟨q, b', F', rfl, hq, hT, hE, hq0, hF⟩
  have HQ := Lib.hid hq
  have HT := Lib.hid hT
  have HF := Lib.hid hF
  replace HE := Lib.hid (HE.out.ext hE)
  replace BA := Lib.hid (BA.out.ext hE)
  replace BB := Lib.hid (BB.out.ext hE)
  replace BC := Lib.hid (BC.out.ext hE)
  have h07 := hE.size
  clear hq hT hE hF
  gi_wp2_with fail
  have hqs := HQ.out.lt
  refine wpIn_range rfl (by omega) (gf := 33) (lb := #[.pointer (some ⟨q, 0, none⟩)]) rfl trivial (enters_of Tryd.func33 (by kernel_rfl) rfl)
    (S := OneB (w.heap.size + 1 + 1)) (iter_whole w7 q b' J.T HQ.out HT.out (by unfold OneB; omega) (fun k h1 h2 => by have := HF.out k h1; have h3 : k = w.heap.size + 1 + 1 := h2; omega) hl) (by rintro x v W0 W rfl; rfl)
    (fun k W => Keeps (OneB (w.heap.size + 1 + 1)) w7 W ∧ Box W (w.heap.size + 1 + 1) 4 [.bool false] ∧ ∀ j : Nat, j < k → (j : Int) ≠ i)
    (fun c k W => c = .ret ∧ Keeps (OneB (w.heap.size + 1 + 1)) w7 W ∧ Box W (w.heap.size + 1 + 1) 4 [.bool (hasB J.T.l i e)]) (fun k W h => h.1)
    (fun k W W' h hk => ⟨h.1.then hk (fun i hi h => by unfold OneB at h ⊢; omega), h.2.1.keeps hk (by unfold OneB; omega), h.2.2⟩)
    (fun c k W W' h hk => ⟨h.1, h.2.1.then hk (fun i hi h => by unfold OneB at h ⊢; omega), h.2.2.keeps hk (by unfold OneB; omega)⟩) ⟨Keeps.refl _ _, BC.out, fun j hj => by omega⟩ ?_ ?_ ?_
  · rintro k hk v W0 W - hE0 ⟨hkW, hb0, hne⟩ hv hlt0 hlt
    have hk' : k < J.T.l.length := by rw [wholeL_len] at hk; exact hk
    rw [wholeL_get] at hv
    unfold HandsOn at hv
    dsimp only at hv
    obtain ⟨x, hx⟩ : ∃ x, (J.T.l[k]).e = x := ⟨_, rfl⟩
    rw [hx] at hv
    unfold En.v at hv
    subst hv
    have HXE := Lib.hid hx
    have HNE := Lib.hid hne
    have HKW := Lib.hid hkW
    have HB0 := Lib.hid hb0
    have h7W := hkW.size
    clear hx hne hkW hb0 hE0
    gi_wp2_with fail
    refine ⟨(Keeps.refl _ _).alloc _, fun W2 hW2 => ?_⟩
    have bx := (Box.new W 35 [.int .i64 x.kind, .int .i64 x.member, .int .i64 x.number, .string (bs x.text)]).keeps hW2 (by unfold OneB; omega)
    have ex : Keeps (OneB (w7.heap.size + 1)) W W2 := ((Keeps.refl _ _).alloc (Obj.cells #[.int .i64 x.kind, .int .i64 x.member, .int .i64 x.number, .string (bs x.text)] 35)).trans hW2
    have b0 := HB0.out.keeps ex (by unfold OneB; omega)
    have bA := (BA.out.keeps HKW.out (by unfold OneB; omega)).keeps ex (by unfold OneB; omega)
    have bB := (BB.out.keeps HKW.out (by unfold OneB; omega)).keeps ex (by unfold OneB; omega)
    have hkW2 : Keeps (OneB (w.heap.size + 1 + 1)) w7 W2 := HKW.out.then ex (fun i hi h => by unfold OneB at h; omega)
    have BX := Lib.hid bx
    have B0 := Lib.hid b0
    have AA := Lib.hid bA
    have BBB := Lib.hid bB
    have HK2 := Lib.hid hkW2
    clear bx b0 bA bB hkW2 ex hW2
    by_cases hi : (k : Int) = i
    · have HI := Lib.hid hi
      subst hi
      obtain ⟨cBX, zBX⟩ := BX.out.reads
      have lBX := BX.out.lt
      obtain ⟨cB0, zB0⟩ := B0.out.reads
      have lB0 := B0.out.lt
      obtain ⟨cAA, zAA⟩ := AA.out.reads
      have lAA := AA.out.lt
      obtain ⟨cBBB, zBBB⟩ := BBB.out.reads
      have lBBB := BBB.out.lt
      gi_wp2_with fail
      all_goals
        refine ⟨(Keeps.refl _ _).setCell _ _ (.inl (.inl ⟨by show w.heap.size + 1 + 1 < w7.heap.size; omega, rfl⟩)), rfl, HK2.out.setCell _ _ (.inl rfl), ?_⟩
        rw [hasB_at J.T.l k hk' e, HXE.out]
        first
          | (have hd : decide (x = e) = true := decide_eq_true (by
              obtain ⟨x1, x2, x3, x4⟩ := x
              obtain ⟨y1, y2, y3, y4⟩ := e
              simp only [bs_toList] at *
              simp_all)
             rw [hd]
             exact B0.out.set 0 (.bool true))
          | (have hd : decide (x = e) = false := decide_eq_false (by intro h9; subst h9; simp_all)
             rw [hd]
             exact B0.out.set 0 (.bool false))
    · have hib : ((k : Int) == i) = false := by simpa using hi
      obtain ⟨cAA, zAA⟩ := AA.out.reads
      have lAA := AA.out.lt
      gi_wp2_with fail
      refine ⟨Keeps.refl _ _, HK2.out, B0.out, fun j hj => ?_⟩
      by_cases hjk : j = k
      · subst hjk; exact hi
      · exact HNE.out j (by omega)
  · rintro W ⟨hkW, hb0, hne⟩ hm
    rw [wholeL_len] at hne
    have HK := Lib.hid hkW
    have HM := Lib.hid hm
    have D0 := Lib.hid hb0
    have HN := Lib.hid hne
    have h7W := hkW.size
    clear hkW hm hb0 hne
    obtain ⟨cD0, zD0⟩ := D0.out.reads
    have lD0 := D0.out.lt
    gi_wp2_with fail
    clear cD0 zD0 lD0
    rw [hasB_none _ _ _ HN.out]
    refine leaves_marks [w7.heap.size] _ (by simp) ?_ ?_
    · intro D hD
      obtain rfl : D = w7.heap.size := by simpa using hD
      exact HM.out.keeps (S := OneB (w.heap.size + 1 + 1)) ((Keeps.refl _ _).setOne _ _) (by unfold OneB; omega)
    · intro w' hk
      have q0 : Box w' (w.heap.size + 1 + 1) 4 [.bool false] := by
        refine Box.keeps (w := _) ?_ hk (by simp; omega)
        exact D0.out.set 0 (.bool false)
      refine ⟨.bool false, ?_, rfl, ?_⟩
      · simp [results, Tryd.results47, go_sem, q0.reads.1]
      · have h1 := (HE.out.then HK.out (fun i hi h => by unfold OneB at h; omega)).then ((Keeps.refl (OneB (w.heap.size + 1 + 1)) W).setOne 0 (.bool false)) (fun i hi h => by unfold OneB at h; omega)
        exact h1.then hk (fun i hi h => by simp at h; omega)
  · rintro c k W hk ⟨rfl, hkW, hb0⟩ hm
    have HK := Lib.hid hkW
    have HM := Lib.hid hm
    have D0 := Lib.hid hb0
    have h7W := hkW.size
    clear hkW hm hb0
    gi_wp2_with fail
    refine leaves_marks [w7.heap.size] _ (by simp) ?_ ?_
    · intro D hD
      obtain rfl : D = w7.heap.size := by simpa using hD
      exact HM.out
    · intro w' hk
      have q0 : Box w' (w.heap.size + 1 + 1) 4 [.bool (hasB J.T.l i e)] := Box.keeps D0.out hk (by simp; omega)
      refine ⟨.bool (hasB J.T.l i e), ?_, rfl, ?_⟩
      · simp [results, Tryd.results47, go_sem, q0.reads.1]
      · have h1 := HE.out.then HK.out (fun i hi h => by unfold OneB at h; omega)
        exact h1.then hk (fun i hi h => by simp at h; omega)
end Go.Proofs.YthhdgjofagdjeaaDoor
end
section
/- What a judge does with a thing seen: a member went. Condition: the judge lies as 'JudgeAt' says; the member is one of sixteen. -/
set_option linter.unusedVariables false
set_option linter.unusedSimpArgs false
set_option maxHeartbeats 1000000
set_option maxRecDepth 10000
namespace Go.Proofs.YthhdgjofagdjeaaDoor
open Go.RowKit

structure Sn where
  kind : Int
  who : Int
  index : Int
  e : En
def Sn.v (x : Sn) : Value := .agg #[.int .i64 x.kind, .int .i64 x.who, .int .i64 x.index, .int .i64 x.e.kind, .int .i64 x.e.member, .int .i64 x.e.number, .string (bs x.e.text)]
theorem JudgeAt.next {w : World} {F Ft : Nat → Prop} {b tb mb : Nat} {J : JA} (h : JudgeAt w F Ft b tb mb J) (p : Nat) (hp : p < 16) : w.cell? ⟨b, 9 + p, none⟩ = some (.int .i64 (J.next.getD p 0)) := by
  have h1 := (J.at tb mb h.l9 h.l16).2.1 p hp
  rw [h.box.reads.1, h1, List.getD_eq_getElem?_getD, List.getElem?_eq_getElem (by have := h.l16; omega)]
  rfl
theorem JudgeAt.putNext {w : World} {F Ft : Nat → Prop} {b tb mb : Nat} {J : JA} (h : JudgeAt w F Ft b tb mb J) (p : Nat) (hp : p < 16) (n : Int) : JudgeAt (w.setCell ⟨b, 9 + p, none⟩ (.int .i64 n)) F Ft b tb mb { J with next := J.next.set p n } := by
  have hk : Keeps (OneB b) w (w.setCell ⟨b, 9 + p, none⟩ (.int .i64 n)) := (Keeps.refl _ _).setOne _ _
  have hb := h.box.set (9 + p) (.int .i64 n)
  have a1 : (J.told.map iV).length = 9 := by rw [List.length_map, h.l9]
  have a2 : (J.next.map iV).length = 16 := by rw [List.length_map, h.l16]
  have e : (J.cells tb mb).set (9 + p) (.int .i64 n) = ({ J with next := J.next.set p n } : JA).cells tb mb := by
    unfold JA.cells
    rw [List.set_append_right _ _ (by omega), a1, show 9 + p - 9 = p by omega, List.set_append_left _ _ (by omega), List.map_set]
    rfl
  rw [e] at hb
  exact { h with box := hb, talk := h.talk.keeps hk (fun k hF h9 => h.nb (by have h8 : k = b := h9; rw [← h8]; exact hF)), map := h.map.keeps hk (fun h9 => h.bm (Eq.symm h9)), lt := fun k hF => Nat.lt_of_lt_of_le (h.lt k hF) hk.size, l16 := by simpa using h.l16 }
theorem went_bad {F : Nat → Prop} (w : World) (b : Nat) (J : JA) (kind : Int) (p : Nat) (index : Int) (e : En) (h : JudgeX w F b J) (hp : p < 16) (hle : ¬ index ≤ J.next.getD p 0) :
    Calls Tryd.prog 53 #[.pointer (some ⟨b, 0, none⟩), (⟨kind, p, index, e⟩ : Sn).v] w fun r w' => r = .panicked [{ v := .iface 22 (.int .i64 403), recovered := false }] ∧ Ext w w' := by
  have HX := Lib.hid h
  have HP := Lib.hid hp
  have HD := Lib.hid (decide_eq_false hle)
  clear h hle
  obtain ⟨n, hn⟩ : ∃ n, J.next.getD p 0 = n := ⟨_, rfl⟩
  rw [hn] at HD
  have HN := Lib.hid hn
  clear hn
  unfold Sn.v
  go_enter Tryd.func53, Tryd.ntmps53
  go_wp2_with fail
  have bx0 := (Box.new w 37 [.int .i64 kind, .int .i64 (p : Int), .int .i64 index, .int .i64 e.kind, .int .i64 e.member, .int .i64 e.number, .string (bs e.text)])
  have ex : Ext w (w.alloc (Obj.cells #[.int .i64 kind, .int .i64 (p : Int), .int .i64 index, .int .i64 e.kind, .int .i64 e.member, .int .i64 e.number, .string (bs e.text)] 37)) := ((Keeps.refl NoB w).alloc _)
  have sx : (w.alloc (Obj.cells #[.int .i64 kind, .int .i64 (p : Int), .int .i64 index, .int .i64 e.kind, .int .i64 e.member, .int .i64 e.number, .string (bs e.text)] 37)).heap.size = w.heap.size + 1 := by simp
  generalize (w.alloc (Obj.cells #[.int .i64 kind, .int .i64 (p : Int), .int .i64 index, .int .i64 e.kind, .int .i64 e.member, .int .i64 e.number, .string (bs e.text)] 37)) = w0 at bx0 ex sx ⊢
  have Sx := Lib.hid sx
  clear sx
  have BX := Lib.hid bx0
  have HE := Lib.hid ex
  obtain ⟨Ft, tb, mb, hat⟩ := HX.out.ext ex
  have cn := hat.next p hp
  rw [HN.out] at cn
  have lt := hat.box.lt
  have g1 : (p : Int) < 16 := by omega
  have g2 : ¬ (p : Int) < 0 := by omega
  clear bx0 ex hat hp
  obtain ⟨cBX, zBX⟩ := BX.out.reads
  have lBX := BX.out.lt
  have hE0 : Keeps NoB w0 w0.drew := (Keeps.refl _ _).drew
  refine wp_region_plan [(0, 0), (3, 1), (0, 2), (0, 3), (3, 4), (0, 5), (0, 6), (0, 7), (0, 8), (3, 9), (0, 10)] [] [11, 12] [11, 12] (ClsE w0) (by kernel_rfl) (by kernel_rfl) (by kernel_rfl) rfl rfl (ClsE.of hE0) (fun _ _ _ d _ h => by cases d <;> exact h) ?_; simp only [planL, nL]
  refine pR (v := ?_) rfl (fun W => ?_) ?_; rotate_left; (go_simp <;> with_reducible rfl); simp only [nP]
  refine pX (v := ?_) rfl ?_ ?_; rotate_left; (go_simp <;> with_reducible rfl); simp only [nP]
  refine pM _ rfl rfl ?_; simp only [nP, nE]
  refine pR (v := ?_) rfl (fun W => ?_) ?_; rotate_left; (go_simp <;> with_reducible rfl); simp only [nP]
  refine pX (v := ?_) rfl ?_ ?_; rotate_left; (go_simp <;> with_reducible rfl); simp only [nP]
  iterate 4 (refine pR (v := ?_) rfl (fun W => ?_) ?_; rotate_left; (go_simp <;> with_reducible rfl); simp only [nP])
  refine pX (v := ?_) rfl ?_ ?_; rotate_left; (go_simp <;> with_reducible rfl); simp only [nP]
  refine pR (v := ?_) rfl (fun W => ?_) ?_; rotate_left; (go_simp <;> with_reducible rfl); simp only [nP]
  refine plan_nil ?_; simp only [tailL, List.filterMap_cons, List.filterMap_nil, nL]; change wpList _ _ _ (_ :: _ :: []) _ _
  clear cBX zBX lBX
  go_wp2_with fail
  have by0 := (Box.new w0 4 [.bool (decide (index ≤ n))])
  have ey : Ext w0 (w0.alloc (Obj.cells #[.bool (decide (index ≤ n))] 4)) := ((Keeps.refl NoB w0).alloc _)
  have sy : (w0.alloc (Obj.cells #[.bool (decide (index ≤ n))] 4)).heap.size = w0.heap.size + 1 := by simp
  generalize (w0.alloc (Obj.cells #[.bool (decide (index ≤ n))] 4)) = w1 at by0 ey sy ⊢
  have Sy := Lib.hid sy
  clear sy
  rw [HD.out] at by0
  have HE1 := Lib.hid ((HE.out.ext ey).drew)
  refine (must_bad_1 w1.drew _ 403 false true by0.drew rfl).mono ?_
  rintro r w2 ⟨rfl, rfl⟩
  clear ey by0
  go_wp2_with fail
  exact ⟨rfl, rfl, HE1.out⟩
theorem went_ok {F : Nat → Prop} (w : World) (b : Nat) (J : JA) (kind : Int) (p : Nat) (index : Int) (e : En) (h : JudgeX w F b J) (hp : p < 16) (hle : index ≤ J.next.getD p 0) :
    Calls Tryd.prog 53 #[.pointer (some ⟨b, 0, none⟩), (⟨kind, p, index, e⟩ : Sn).v] w fun r w' => r = .returned (.tuple #[]) ∧ JudgeX w' F b { J with next := J.next.set p index } ∧ Keeps F w w' := by
  have HX := Lib.hid h
  have HP := Lib.hid hp
  have HD := Lib.hid (decide_eq_true hle)
  clear h hle
  obtain ⟨n, hn⟩ : ∃ n, J.next.getD p 0 = n := ⟨_, rfl⟩
  rw [hn] at HD
  have HN := Lib.hid hn
  clear hn
  unfold Sn.v
  go_enter Tryd.func53, Tryd.ntmps53
  go_wp2_with fail
  have bx0 := (Box.new w 37 [.int .i64 kind, .int .i64 (p : Int), .int .i64 index, .int .i64 e.kind, .int .i64 e.member, .int .i64 e.number, .string (bs e.text)])
  have ex : Ext w (w.alloc (Obj.cells #[.int .i64 kind, .int .i64 (p : Int), .int .i64 index, .int .i64 e.kind, .int .i64 e.member, .int .i64 e.number, .string (bs e.text)] 37)) := ((Keeps.refl NoB w).alloc _)
  have sx : (w.alloc (Obj.cells #[.int .i64 kind, .int .i64 (p : Int), .int .i64 index, .int .i64 e.kind, .int .i64 e.member, .int .i64 e.number, .string (bs e.text)] 37)).heap.size = w.heap.size + 1 := by simp
  generalize (w.alloc (Obj.cells #[.int .i64 kind, .int .i64 (p : Int), .int .i64 index, .int .i64 e.kind, .int .i64 e.member, .int .i64 e.number, .string (bs e.text)] 37)) = w0 at bx0 ex sx ⊢
  have Sx := Lib.hid sx
  clear sx
  have BX := Lib.hid bx0
  have HE := Lib.hid ex
  obtain ⟨Ft, tb, mb, hat⟩ := HX.out.ext ex
  have HAT := Lib.hid hat
  have HFB := Lib.hid hat.fb
  have HLT := Lib.hid (let ⟨_, _, _, h⟩ := HX.out; h.lt b h.fb)
  have cn := hat.next p hp
  rw [HN.out] at cn
  have lt := hat.box.lt
  have g1 : (p : Int) < 16 := by omega
  have g2 : ¬ (p : Int) < 0 := by omega
  clear bx0 ex hat hp
  obtain ⟨cBX, zBX⟩ := BX.out.reads
  have lBX := BX.out.lt
  have hE0 : Keeps NoB w0 w0.drew := (Keeps.refl _ _).drew
  refine wp_region_plan [(0, 0), (3, 1), (0, 2), (0, 3), (3, 4), (0, 5), (0, 6), (0, 7), (0, 8), (3, 9), (0, 10)] [] [11, 12] [11, 12] (ClsE w0) (by kernel_rfl) (by kernel_rfl) (by kernel_rfl) rfl rfl (ClsE.of hE0) (fun _ _ _ d _ h => by cases d <;> exact h) ?_; simp only [planL, nL]
  refine pR (v := ?_) rfl (fun W => ?_) ?_; rotate_left; (go_simp <;> with_reducible rfl); simp only [nP]
  refine pX (v := ?_) rfl ?_ ?_; rotate_left; (go_simp <;> with_reducible rfl); simp only [nP]
  refine pM _ rfl rfl ?_; simp only [nP, nE]
  refine pR (v := ?_) rfl (fun W => ?_) ?_; rotate_left; (go_simp <;> with_reducible rfl); simp only [nP]
  refine pX (v := ?_) rfl ?_ ?_; rotate_left; (go_simp <;> with_reducible rfl); simp only [nP]
  iterate 4 (refine pR (v := ?_) rfl (fun W => ?_) ?_; rotate_left; (go_simp <;> with_reducible rfl); simp only [nP])
  refine pX (v := ?_) rfl ?_ ?_; rotate_left; (go_simp <;> with_reducible rfl); simp only [nP]
  refine pR (v := ?_) rfl (fun W => ?_) ?_; rotate_left; (go_simp <;> with_reducible rfl); simp only [nP]
  refine plan_nil ?_; simp only [tailL, List.filterMap_cons, List.filterMap_nil, nL]; change wpList _ _ _ (_ :: _ :: []) _ _
  clear cBX zBX lBX
  go_wp2_with fail
  have by0 := (Box.new w0 4 [.bool (decide (index ≤ n))])
  have ey : Ext w0 (w0.alloc (Obj.cells #[.bool (decide (index ≤ n))] 4)) := ((Keeps.refl NoB w0).alloc _)
  have sy : (w0.alloc (Obj.cells #[.bool (decide (index ≤ n))] 4)).heap.size = w0.heap.size + 1 := by simp
  generalize (w0.alloc (Obj.cells #[.bool (decide (index ≤ n))] 4)) = w1 at by0 ey sy ⊢
  have Sy := Lib.hid sy
  clear sy
  rw [HD.out] at by0
  have e01 : Ext w0 w1.drew := ey.drew
  replace HE := Lib.hid (HE.out.ext e01)
  replace HAT := Lib.hid (HAT.out.keeps e01 fun _ _ => noB _)
  replace BX := Lib.hid (BX.out.ext e01)
  refine (must_ok_1 w1.drew _ 403 true true by0.drew rfl).mono ?_
  rintro r w2 ⟨rfl, rfl⟩
  clear ey by0 e01 cn lt
  generalize w1.drew = w2 at HE HAT BX ⊢
  have cn := HAT.out.next p HP.out
  have lt := HAT.out.box.lt
  have zz := HAT.out.box.reads.2
  have n0 : ¬ OneB b w.heap.size := by have := HLT.out; unfold OneB; omega
  obtain ⟨cBX, zBX⟩ := BX.out.reads
  have lBX := BX.out.lt
  go_wp2_with fail
  have hE0 : Keeps (OneB b) w2 w2.drew := (Keeps.refl _ _).drew
  refine wp_region_plan [(0, 0), (0, 1), (3, 2), (0, 3), (3, 4), (0, 5), (0, 6), (0, 7), (0, 8)] [] [9] [9] (ClsK (OneB b) w2) (by kernel_rfl) (by kernel_rfl) (by kernel_rfl) rfl rfl (ClsK.of hE0) (fun _ _ _ d _ h => by cases d <;> exact h) ?_; simp only [planL, nL]
  refine pM _ rfl rfl ?_; simp only [nP, nE]
  refine pR (v := ?_) rfl (fun W => ?_) ?_; rotate_left; (go_simp <;> with_reducible rfl); simp only [nP]
  refine pX (v := ?_) rfl ?_ ?_; rotate_left; (go_simp <;> with_reducible rfl); simp only [nP]
  refine pR (v := ?_) rfl (fun W => ?_) ?_; rotate_left; (go_simp <;> with_reducible rfl); simp only [nP]
  refine pX (v := ?_) rfl ?_ ?_; rotate_left; (go_simp <;> with_reducible rfl); simp only [nP]
  iterate 4 (refine pR (v := ?_) rfl (fun W => ?_) ?_; rotate_left; (go_simp <;> with_reducible rfl); simp only [nP])
  refine plan_nil ?_; simp only [tailL, List.filterMap_cons, List.filterMap_nil, nL]; change wpList _ _ _ (_ :: []) _ _
  clear cBX zBX lBX
  go_wp2_with fail
  go_end0
  have hk : Keeps (OneB b) w2 (w2.setCell ⟨b, 9 + p, none⟩ (.int .i64 index)) := (Keeps.refl _ _).setOne _ _
  have hat := (HAT.out.putNext p HP.out index).keeps (S := NoB) ((Keeps.refl _ _).drew) (fun _ _ => noB _)
  exact ⟨rfl, ⟨Ft, tb, mb, hat⟩, ((Ext.keeps HE.out).then hk (fun i hi h => by obtain rfl : i = b := h; exact HFB.out)).drew⟩
end Go.Proofs.YthhdgjofagdjeaaDoor
end
section
/- What a judge does with a thing seen: a place went back. Condition: the judge lies as 'JudgeAt' says; the place is one of nine. -/
set_option linter.unusedVariables false
set_option linter.unusedSimpArgs false
set_option maxHeartbeats 1000000
set_option maxRecDepth 10000
namespace Go.Proofs.YthhdgjofagdjeaaDoor
open Go.RowKit

theorem JudgeAt.toldAt {w : World} {F Ft : Nat → Prop} {b tb mb : Nat} {J : JA} (h : JudgeAt w F Ft b tb mb J) (p : Nat) (hp : p < 9) : w.cell? ⟨b, p, none⟩ = some (.int .i64 (J.told.getD p 0)) := by
  have h1 := (J.at tb mb h.l9 h.l16).1 p hp
  rw [h.box.reads.1, h1, List.getD_eq_getElem?_getD, List.getElem?_eq_getElem (by have := h.l9; omega)]
  rfl
theorem JudgeAt.putTold {w : World} {F Ft : Nat → Prop} {b tb mb : Nat} {J : JA} (h : JudgeAt w F Ft b tb mb J) (p : Nat) (hp : p < 9) (n : Int) : JudgeAt (w.setCell ⟨b, p, none⟩ (.int .i64 n)) F Ft b tb mb { J with told := J.told.set p n } := by
  have hk : Keeps (OneB b) w (w.setCell ⟨b, p, none⟩ (.int .i64 n)) := (Keeps.refl _ _).setOne _ _
  have hb := h.box.set p (.int .i64 n)
  have a1 : (J.told.map iV).length = 9 := by rw [List.length_map, h.l9]
  have e : (J.cells tb mb).set p (.int .i64 n) = ({ J with told := J.told.set p n } : JA).cells tb mb := by
    unfold JA.cells
    rw [List.set_append_left _ _ (by omega), List.map_set]
    rfl
  rw [e] at hb
  exact { h with box := hb, talk := h.talk.keeps hk (fun k hF h9 => h.nb (by have h8 : k = b := h9; rw [← h8]; exact hF)), map := h.map.keeps hk (fun h9 => h.bm (Eq.symm h9)), lt := fun k hF => Nat.lt_of_lt_of_le (h.lt k hF) hk.size, l9 := by simpa using h.l9 }
theorem back_short {F : Nat → Prop} (w : World) (b : Nat) (J : JA) (kind : Int) (p : Nat) (index : Int) (e : En) (h : JudgeX w F b J) (hp : p < 9) (hle : ¬ J.told.getD p 0 ≤ index) :
    Calls Tryd.prog 50 #[.pointer (some ⟨b, 0, none⟩), (⟨kind, p, index, e⟩ : Sn).v] w fun r w' => r = .panicked [{ v := .iface 22 (.int .i64 404), recovered := false }] ∧ Ext w w' := by
  have HX := Lib.hid h
  have HP := Lib.hid hp
  have HD := Lib.hid (decide_eq_false hle)
  clear h hle
  obtain ⟨n, hn⟩ : ∃ n, J.told.getD p 0 = n := ⟨_, rfl⟩
  rw [hn] at HD
  have HN := Lib.hid hn
  clear hn
  unfold Sn.v
  go_enter Tryd.func50, Tryd.ntmps50
  go_wp2_with fail
  have bx0 := (Box.new w 37 [.int .i64 kind, .int .i64 (p : Int), .int .i64 index, .int .i64 e.kind, .int .i64 e.member, .int .i64 e.number, .string (bs e.text)])
  have ex : Ext w (w.alloc (Obj.cells #[.int .i64 kind, .int .i64 (p : Int), .int .i64 index, .int .i64 e.kind, .int .i64 e.member, .int .i64 e.number, .string (bs e.text)] 37)) := ((Keeps.refl NoB w).alloc _)
  have sx : (w.alloc (Obj.cells #[.int .i64 kind, .int .i64 (p : Int), .int .i64 index, .int .i64 e.kind, .int .i64 e.member, .int .i64 e.number, .string (bs e.text)] 37)).heap.size = w.heap.size + 1 := by simp
  generalize (w.alloc (Obj.cells #[.int .i64 kind, .int .i64 (p : Int), .int .i64 index, .int .i64 e.kind, .int .i64 e.member, .int .i64 e.number, .string (bs e.text)] 37)) = w0 at bx0 ex sx ⊢
  have Sx := Lib.hid sx
  clear sx
  have BX := Lib.hid bx0
  have HE := Lib.hid ex
  obtain ⟨Ft, tb, mb, hat⟩ := HX.out.ext ex
  have HAT := Lib.hid hat
  have HFB := Lib.hid hat.fb
  have HLT := Lib.hid (let ⟨_, _, _, h⟩ := HX.out; h.lt b h.fb)
  have cn := hat.toldAt p hp
  rw [HN.out] at cn
  have lt := hat.box.lt
  have g1 : (p : Int) < 9 := by omega
  have g2 : ¬ (p : Int) < 0 := by omega
  clear bx0 ex hat hp
  obtain ⟨cBX, zBX⟩ := BX.out.reads
  have lBX := BX.out.lt
  have hE0 : Keeps NoB w0 w0.drew := (Keeps.refl _ _).drew
  refine wp_region_plan [(0, 0), (3, 1), (0, 2), (0, 3), (3, 4), (0, 5), (0, 6), (0, 7), (0, 8), (3, 9), (0, 10)] [] [11, 12] [11, 12] (ClsE w0) (by kernel_rfl) (by kernel_rfl) (by kernel_rfl) rfl rfl (ClsE.of hE0) (fun _ _ _ d _ h => by cases d <;> exact h) ?_; simp only [planL, nL]
  refine pR (v := ?_) rfl (fun W => ?_) ?_; rotate_left; (go_simp <;> with_reducible rfl); simp only [nP]
  refine pX (v := ?_) rfl ?_ ?_; rotate_left; (go_simp <;> with_reducible rfl); simp only [nP]
  refine pM _ rfl rfl ?_; simp only [nP, nE]
  refine pR (v := ?_) rfl (fun W => ?_) ?_; rotate_left; (go_simp <;> with_reducible rfl); simp only [nP]
  refine pX (v := ?_) rfl ?_ ?_; rotate_left; (go_simp <;> with_reducible rfl); simp only [nP]
  iterate 4 (refine pR (v := ?_) rfl (fun W => ?_) ?_; rotate_left; (go_simp <;> with_reducible rfl); simp only [nP])
  refine pX (v := ?_) rfl ?_ ?_; rotate_left; (go_simp <;> with_reducible rfl); simp only [nP]
  refine pR (v := ?_) rfl (fun W => ?_) ?_; rotate_left; (go_simp <;> with_reducible rfl); simp only [nP]
  refine plan_nil ?_; simp only [tailL, List.filterMap_cons, List.filterMap_nil, nL]; change wpList _ _ _ (_ :: _ :: []) _ _
  clear cBX zBX lBX
  go_wp2_with fail
  have by0 := (Box.new w0 4 [.bool (decide (n ≤ index))])
  have ey : Ext w0 (w0.alloc (Obj.cells #[.bool (decide (n ≤ index))] 4)) := ((Keeps.refl NoB w0).alloc _)
  have sy : (w0.alloc (Obj.cells #[.bool (decide (n ≤ index))] 4)).heap.size = w0.heap.size + 1 := by simp
  generalize (w0.alloc (Obj.cells #[.bool (decide (n ≤ index))] 4)) = w1 at by0 ey sy ⊢
  have Sy := Lib.hid sy
  clear sy
  rw [HD.out] at by0
  have HE1 := Lib.hid ((HE.out.ext ey).drew)
  refine (must_bad_1 w1.drew _ 404 false true by0.drew rfl).mono ?_
  rintro r w2 ⟨rfl, rfl⟩
  clear ey by0
  go_wp2_with fail
  exact ⟨rfl, rfl, HE1.out⟩
theorem back_skip {F : Nat → Prop} (w : World) (b : Nat) (J : JA) (kind : Int) (p : Nat) (index : Int) (e : En) (h : JudgeX w F b J) (hp : p < 9) (hle : J.told.getD p 0 ≤ index) (hle2 : ¬ index ≤ J.T.l.length) :
    Calls Tryd.prog 50 #[.pointer (some ⟨b, 0, none⟩), (⟨kind, p, index, e⟩ : Sn).v] w fun r w' => r = .panicked [{ v := .iface 22 (.int .i64 403), recovered := false }] ∧ Ext w w' := by
  have HD2 := Lib.hid (decide_eq_false hle2)
  clear hle2
  have HX := Lib.hid h
  have HP := Lib.hid hp
  have HD := Lib.hid (decide_eq_true hle)
  clear h hle
  obtain ⟨n, hn⟩ : ∃ n, J.told.getD p 0 = n := ⟨_, rfl⟩
  rw [hn] at HD
  have HN := Lib.hid hn
  clear hn
  unfold Sn.v
  go_enter Tryd.func50, Tryd.ntmps50
  go_wp2_with fail
  have bx0 := (Box.new w 37 [.int .i64 kind, .int .i64 (p : Int), .int .i64 index, .int .i64 e.kind, .int .i64 e.member, .int .i64 e.number, .string (bs e.text)])
  have ex : Ext w (w.alloc (Obj.cells #[.int .i64 kind, .int .i64 (p : Int), .int .i64 index, .int .i64 e.kind, .int .i64 e.member, .int .i64 e.number, .string (bs e.text)] 37)) := ((Keeps.refl NoB w).alloc _)
  have sx : (w.alloc (Obj.cells #[.int .i64 kind, .int .i64 (p : Int), .int .i64 index, .int .i64 e.kind, .int .i64 e.member, .int .i64 e.number, .string (bs e.text)] 37)).heap.size = w.heap.size + 1 := by simp
  generalize (w.alloc (Obj.cells #[.int .i64 kind, .int .i64 (p : Int), .int .i64 index, .int .i64 e.kind, .int .i64 e.member, .int .i64 e.number, .string (bs e.text)] 37)) = w0 at bx0 ex sx ⊢
  have Sx := Lib.hid sx
  clear sx
  have BX := Lib.hid bx0
  have HE := Lib.hid ex
  obtain ⟨Ft, tb, mb, hat⟩ := HX.out.ext ex
  have HAT := Lib.hid hat
  have HFB := Lib.hid hat.fb
  have HLT := Lib.hid (let ⟨_, _, _, h⟩ := HX.out; h.lt b h.fb)
  have cn := hat.toldAt p hp
  rw [HN.out] at cn
  have lt := hat.box.lt
  have g1 : (p : Int) < 9 := by omega
  have g2 : ¬ (p : Int) < 0 := by omega
  clear bx0 ex hat hp
  obtain ⟨cBX, zBX⟩ := BX.out.reads
  have lBX := BX.out.lt
  have hE0 : Keeps NoB w0 w0.drew := (Keeps.refl _ _).drew
  refine wp_region_plan [(0, 0), (3, 1), (0, 2), (0, 3), (3, 4), (0, 5), (0, 6), (0, 7), (0, 8), (3, 9), (0, 10)] [] [11, 12] [11, 12] (ClsE w0) (by kernel_rfl) (by kernel_rfl) (by kernel_rfl) rfl rfl (ClsE.of hE0) (fun _ _ _ d _ h => by cases d <;> exact h) ?_; simp only [planL, nL]
  refine pR (v := ?_) rfl (fun W => ?_) ?_; rotate_left; (go_simp <;> with_reducible rfl); simp only [nP]
  refine pX (v := ?_) rfl ?_ ?_; rotate_left; (go_simp <;> with_reducible rfl); simp only [nP]
  refine pM _ rfl rfl ?_; simp only [nP, nE]
  refine pR (v := ?_) rfl (fun W => ?_) ?_; rotate_left; (go_simp <;> with_reducible rfl); simp only [nP]
  refine pX (v := ?_) rfl ?_ ?_; rotate_left; (go_simp <;> with_reducible rfl); simp only [nP]
  iterate 4 (refine pR (v := ?_) rfl (fun W => ?_) ?_; rotate_left; (go_simp <;> with_reducible rfl); simp only [nP])
  refine pX (v := ?_) rfl ?_ ?_; rotate_left; (go_simp <;> with_reducible rfl); simp only [nP]
  refine pR (v := ?_) rfl (fun W => ?_) ?_; rotate_left; (go_simp <;> with_reducible rfl); simp only [nP]
  refine plan_nil ?_; simp only [tailL, List.filterMap_cons, List.filterMap_nil, nL]; change wpList _ _ _ (_ :: _ :: []) _ _
  clear cBX zBX lBX
  go_wp2_with fail
  have by0 := (Box.new w0 4 [.bool (decide (n ≤ index))])
  have ey : Ext w0 (w0.alloc (Obj.cells #[.bool (decide (n ≤ index))] 4)) := ((Keeps.refl NoB w0).alloc _)
  have sy : (w0.alloc (Obj.cells #[.bool (decide (n ≤ index))] 4)).heap.size = w0.heap.size + 1 := by simp
  generalize (w0.alloc (Obj.cells #[.bool (decide (n ≤ index))] 4)) = w1 at by0 ey sy ⊢
  have Sy := Lib.hid sy
  clear sy
  rw [HD.out] at by0
  have e01 : Ext w0 w1.drew := ey.drew
  replace HE := Lib.hid (HE.out.ext e01)
  replace HAT := Lib.hid (HAT.out.keeps e01 fun _ _ => noB _)
  replace BX := Lib.hid (BX.out.ext e01)
  refine (must_ok_1 w1.drew _ 404 true true by0.drew rfl).mono ?_
  rintro r w2 ⟨rfl, rfl⟩
  clear ey by0 e01 cn lt
  generalize w1.drew = w2 at HE HAT BX ⊢
  obtain ⟨-, -, -, c28, -, lt⟩ := HAT.out.see
  have HT := Lib.hid HAT.out.talk
  obtain ⟨cBX, zBX⟩ := BX.out.reads
  have lBX := BX.out.lt
  go_wp2_with fail
  have hE0 : Keeps NoB w2 w2.drew := (Keeps.refl _ _).drew
  refine wp_region_plan [(0, 0), (1, 1), (0, 2), (0, 3), (0, 4), (3, 5), (2, 6), (0, 7)] [1] [6, 8, 9] [8, 9] (ClsE w2) (by kernel_rfl) (by kernel_rfl) (by kernel_rfl) rfl rfl (ClsE.of hE0) (fun _ _ _ d _ h => by cases d <;> exact h) ?_; simp only [planL, nL]
  refine pR (v := ?_) rfl (fun W => ?_) ?_; rotate_left; (go_simp <;> with_reducible rfl); simp only [nP]
  refine pL (v := ?_) rfl (fun W => ?_) ?_; rotate_left; (go_simp <;> with_reducible rfl); simp only [nP]
  refine pM _ rfl rfl ?_; simp only [nP, nE]
  iterate 2 (refine pR (v := ?_) rfl (fun W => ?_) ?_; rotate_left; (go_simp <;> with_reducible rfl); simp only [nP])
  refine pX (v := ?_) rfl ?_ ?_; rotate_left; (go_simp <;> with_reducible rfl); simp only [nP]
  refine plan_does rfl (fun K hK => ?_)
  go_wp2_with fail
  refine (talk_len _ tb J.T (HT.out.ext hE0)).mono ?_
  rintro r w3 ⟨rfl, rfl⟩
  refine hK _ _ ⟨ClsE.of (by assumption), ?_⟩; clear hK K; try simp only [nP]
  refine pR (v := ?_) rfl (fun W => ?_) ?_; rotate_left; (go_simp <;> with_reducible rfl); simp only [nP]
  refine plan_nil ?_; simp only [tailL, List.filterMap_cons, List.filterMap_nil, nL]; change wpList _ _ _ (_ :: _ :: []) _ _
  clear cBX zBX lBX
  go_wp2_with fail
  have bz0 := (Box.new w2 4 [.bool (decide (index ≤ (J.T.l.length : Int)))])
  have ez : Ext w2 (w2.alloc (Obj.cells #[.bool (decide (index ≤ (J.T.l.length : Int)))] 4)) := ((Keeps.refl NoB w2).alloc _)
  have sz : (w2.alloc (Obj.cells #[.bool (decide (index ≤ (J.T.l.length : Int)))] 4)).heap.size = w2.heap.size + 1 := by simp
  generalize (w2.alloc (Obj.cells #[.bool (decide (index ≤ (J.T.l.length : Int)))] 4)) = w4 at bz0 ez sz ⊢
  have Sz := Lib.hid sz
  clear sz
  rw [HD2.out] at bz0
  have HE1 := Lib.hid ((HE.out.ext ez).drew)
  refine (must_bad_1 w4.drew _ 403 false true bz0.drew rfl).mono ?_
  rintro r w5 ⟨rfl, rfl⟩
  clear ez bz0
  go_wp2_with fail
  exact ⟨rfl, rfl, HE1.out⟩
theorem back_ok {F : Nat → Prop} (w : World) (b : Nat) (J : JA) (kind : Int) (p : Nat) (index : Int) (e : En) (h : JudgeX w F b J) (hp : p < 9) (hle : J.told.getD p 0 ≤ index) (hle2 : index ≤ J.T.l.length) :
    Calls Tryd.prog 50 #[.pointer (some ⟨b, 0, none⟩), (⟨kind, p, index, e⟩ : Sn).v] w fun r w' => r = .returned (.tuple #[]) ∧ JudgeX w' F b { J with told := J.told.set p index } ∧ Keeps F w w' := by
  have HD2 := Lib.hid (decide_eq_true hle2)
  clear hle2
  have HX := Lib.hid h
  have HP := Lib.hid hp
  have HD := Lib.hid (decide_eq_true hle)
  clear h hle
  obtain ⟨n, hn⟩ : ∃ n, J.told.getD p 0 = n := ⟨_, rfl⟩
  rw [hn] at HD
  have HN := Lib.hid hn
  clear hn
  unfold Sn.v
  go_enter Tryd.func50, Tryd.ntmps50
  go_wp2_with fail
  have bx0 := (Box.new w 37 [.int .i64 kind, .int .i64 (p : Int), .int .i64 index, .int .i64 e.kind, .int .i64 e.member, .int .i64 e.number, .string (bs e.text)])
  have ex : Ext w (w.alloc (Obj.cells #[.int .i64 kind, .int .i64 (p : Int), .int .i64 index, .int .i64 e.kind, .int .i64 e.member, .int .i64 e.number, .string (bs e.text)] 37)) := ((Keeps.refl NoB w).alloc _)
  have sx : (w.alloc (Obj.cells #[.int .i64 kind, .int .i64 (p : Int), .int .i64 index, .int .i64 e.kind, .int .i64 e.member, .int .i64 e.number, .string (bs e.text)] 37)).heap.size = w.heap.size + 1 := by simp
  generalize (w.alloc (Obj.cells #[.int .i64 kind, .int .i64 (p : Int), .int .i64 index, .int .i64 e.kind, .int .i64 e.member, .int .i64 e.number, .string (bs e.text)] 37)) = w0 at bx0 ex sx ⊢
  have Sx := Lib.hid sx
  clear sx
  have BX := Lib.hid bx0
  have HE := Lib.hid ex
  obtain ⟨Ft, tb, mb, hat⟩ := HX.out.ext ex
  have HAT := Lib.hid hat
  have HFB := Lib.hid hat.fb
  have HLT := Lib.hid (let ⟨_, _, _, h⟩ := HX.out; h.lt b h.fb)
  have cn := hat.toldAt p hp
  rw [HN.out] at cn
  have lt := hat.box.lt
  have g1 : (p : Int) < 9 := by omega
  have g2 : ¬ (p : Int) < 0 := by omega
  clear bx0 ex hat hp
  obtain ⟨cBX, zBX⟩ := BX.out.reads
  have lBX := BX.out.lt
  have hE0 : Keeps NoB w0 w0.drew := (Keeps.refl _ _).drew
  refine wp_region_plan [(0, 0), (3, 1), (0, 2), (0, 3), (3, 4), (0, 5), (0, 6), (0, 7), (0, 8), (3, 9), (0, 10)] [] [11, 12] [11, 12] (ClsE w0) (by kernel_rfl) (by kernel_rfl) (by kernel_rfl) rfl rfl (ClsE.of hE0) (fun _ _ _ d _ h => by cases d <;> exact h) ?_; simp only [planL, nL]
  refine pR (v := ?_) rfl (fun W => ?_) ?_; rotate_left; (go_simp <;> with_reducible rfl); simp only [nP]
  refine pX (v := ?_) rfl ?_ ?_; rotate_left; (go_simp <;> with_reducible rfl); simp only [nP]
  refine pM _ rfl rfl ?_; simp only [nP, nE]
  refine pR (v := ?_) rfl (fun W => ?_) ?_; rotate_left; (go_simp <;> with_reducible rfl); simp only [nP]
  refine pX (v := ?_) rfl ?_ ?_; rotate_left; (go_simp <;> with_reducible rfl); simp only [nP]
  iterate 4 (refine pR (v := ?_) rfl (fun W => ?_) ?_; rotate_left; (go_simp <;> with_reducible rfl); simp only [nP])
  refine pX (v := ?_) rfl ?_ ?_; rotate_left; (go_simp <;> with_reducible rfl); simp only [nP]
  refine pR (v := ?_) rfl (fun W => ?_) ?_; rotate_left; (go_simp <;> with_reducible rfl); simp only [nP]
  refine plan_nil ?_; simp only [tailL, List.filterMap_cons, List.filterMap_nil, nL]; change wpList _ _ _ (_ :: _ :: []) _ _
  clear cBX zBX lBX
  go_wp2_with fail
  have by0 := (Box.new w0 4 [.bool (decide (n ≤ index))])
  have ey : Ext w0 (w0.alloc (Obj.cells #[.bool (decide (n ≤ index))] 4)) := ((Keeps.refl NoB w0).alloc _)
  have sy : (w0.alloc (Obj.cells #[.bool (decide (n ≤ index))] 4)).heap.size = w0.heap.size + 1 := by simp
  generalize (w0.alloc (Obj.cells #[.bool (decide (n ≤ index))] 4)) = w1 at by0 ey sy ⊢
  have Sy := Lib.hid sy
  clear sy
  rw [HD.out] at by0
  have e01 : Ext w0 w1.drew := ey.drew
  replace HE := Lib.hid (HE.out.ext e01)
  replace HAT := Lib.hid (HAT.out.keeps e01 fun _ _ => noB _)
  replace BX := Lib.hid (BX.out.ext e01)
  refine (must_ok_1 w1.drew _ 404 true true by0.drew rfl).mono ?_
  rintro r w2 ⟨rfl, rfl⟩
  clear ey by0 e01 cn lt
  generalize w1.drew = w2 at HE HAT BX ⊢
  obtain ⟨-, -, -, c28, -, lt⟩ := HAT.out.see
  have HT := Lib.hid HAT.out.talk
  obtain ⟨cBX, zBX⟩ := BX.out.reads
  have lBX := BX.out.lt
  go_wp2_with fail
  have hE0 : Keeps NoB w2 w2.drew := (Keeps.refl _ _).drew
  refine wp_region_plan [(0, 0), (1, 1), (0, 2), (0, 3), (0, 4), (3, 5), (2, 6), (0, 7)] [1] [6, 8, 9] [8, 9] (ClsE w2) (by kernel_rfl) (by kernel_rfl) (by kernel_rfl) rfl rfl (ClsE.of hE0) (fun _ _ _ d _ h => by cases d <;> exact h) ?_; simp only [planL, nL]
  refine pR (v := ?_) rfl (fun W => ?_) ?_; rotate_left; (go_simp <;> with_reducible rfl); simp only [nP]
  refine pL (v := ?_) rfl (fun W => ?_) ?_; rotate_left; (go_simp <;> with_reducible rfl); simp only [nP]
  refine pM _ rfl rfl ?_; simp only [nP, nE]
  iterate 2 (refine pR (v := ?_) rfl (fun W => ?_) ?_; rotate_left; (go_simp <;> with_reducible rfl); simp only [nP])
  refine pX (v := ?_) rfl ?_ ?_; rotate_left; (go_simp <;> with_reducible rfl); simp only [nP]
  refine plan_does rfl (fun K hK => ?_)
  go_wp2_with fail
  refine (talk_len _ tb J.T (HT.out.ext hE0)).mono ?_
  rintro r w3 ⟨rfl, rfl⟩
  refine hK _ _ ⟨ClsE.of (by assumption), ?_⟩; clear hK K; try simp only [nP]
  refine pR (v := ?_) rfl (fun W => ?_) ?_; rotate_left; (go_simp <;> with_reducible rfl); simp only [nP]
  refine plan_nil ?_; simp only [tailL, List.filterMap_cons, List.filterMap_nil, nL]; change wpList _ _ _ (_ :: _ :: []) _ _
  clear cBX zBX lBX
  go_wp2_with fail
  have bz0 := (Box.new w2 4 [.bool (decide (index ≤ (J.T.l.length : Int)))])
  have ez : Ext w2 (w2.alloc (Obj.cells #[.bool (decide (index ≤ (J.T.l.length : Int)))] 4)) := ((Keeps.refl NoB w2).alloc _)
  have sz : (w2.alloc (Obj.cells #[.bool (decide (index ≤ (J.T.l.length : Int)))] 4)).heap.size = w2.heap.size + 1 := by simp
  generalize (w2.alloc (Obj.cells #[.bool (decide (index ≤ (J.T.l.length : Int)))] 4)) = w4 at bz0 ez sz ⊢
  have Sz := Lib.hid sz
  clear sz
  rw [HD2.out] at bz0
  have e24 : Ext w2 w4.drew := ez.drew
  replace HE := Lib.hid (HE.out.ext e24)
  replace HAT := Lib.hid (HAT.out.keeps e24 fun _ _ => noB _)
  replace BX := Lib.hid (BX.out.ext e24)
  refine (must_ok_1 w4.drew _ 403 true true bz0.drew rfl).mono ?_
  rintro r w5 ⟨rfl, rfl⟩
  clear ez bz0 e24 c28 lt hE0
  generalize w4.drew = w5 at HE HAT BX ⊢
  have cn := HAT.out.toldAt p HP.out
  have lt := HAT.out.box.lt
  have zz := HAT.out.box.reads.2
  have n0 : ¬ OneB b w.heap.size := by have := HLT.out; unfold OneB; omega
  obtain ⟨cBX, zBX⟩ := BX.out.reads
  have lBX := BX.out.lt
  go_wp2_with fail
  have hE0 : Keeps (OneB b) w5 w5.drew := (Keeps.refl _ _).drew
  refine wp_region_plan [(0, 0), (0, 1), (3, 2), (0, 3), (3, 4), (0, 5), (0, 6), (0, 7), (0, 8)] [] [9] [9] (ClsK (OneB b) w5) (by kernel_rfl) (by kernel_rfl) (by kernel_rfl) rfl rfl (ClsK.of hE0) (fun _ _ _ d _ h => by cases d <;> exact h) ?_; simp only [planL, nL]
  refine pM _ rfl rfl ?_; simp only [nP, nE]
  refine pR (v := ?_) rfl (fun W => ?_) ?_; rotate_left; (go_simp <;> with_reducible rfl); simp only [nP]
  refine pX (v := ?_) rfl ?_ ?_; rotate_left; (go_simp <;> with_reducible rfl); simp only [nP]
  refine pR (v := ?_) rfl (fun W => ?_) ?_; rotate_left; (go_simp <;> with_reducible rfl); simp only [nP]
  refine pX (v := ?_) rfl ?_ ?_; rotate_left; (go_simp <;> with_reducible rfl); simp only [nP]
  iterate 4 (refine pR (v := ?_) rfl (fun W => ?_) ?_; rotate_left; (go_simp <;> with_reducible rfl); simp only [nP])
  refine plan_nil ?_; simp only [tailL, List.filterMap_cons, List.filterMap_nil, nL]; change wpList _ _ _ (_ :: []) _ _
  clear cBX zBX lBX
  go_wp2_with fail
  go_end0
  have hk : Keeps (OneB b) w5 (w5.setCell ⟨b, p, none⟩ (.int .i64 index)) := (Keeps.refl _ _).setOne _ _
  have hat := (HAT.out.putTold p HP.out index).keeps (S := NoB) ((Keeps.refl _ _).drew) (fun _ _ => noB _)
  exact ⟨rfl, ⟨Ft, tb, mb, hat⟩, ((Ext.keeps HE.out).then hk (fun i hi h => by obtain rfl : i = b := h; exact HFB.out)).drew⟩
end Go.Proofs.YthhdgjofagdjeaaDoor
end
section
/- What a judge does with a thing seen: a member was told a line. Condition: the judge lies as 'JudgeAt' says; the member is one of sixteen. -/
set_option linter.unusedVariables false
set_option linter.unusedSimpArgs false
set_option maxHeartbeats 2000000
set_option maxRecDepth 10000
namespace Go.Proofs.YthhdgjofagdjeaaDoor
open Go.RowKit

theorem told_skip {F : Nat → Prop} (w : World) (b : Nat) (J : JA) (kind : Int) (p : Nat) (index : Int) (e : En) (h : JudgeX w F b J) (hp : p < 16) (hl : J.T.l.length ≤ 4096) (hle : ¬ index = J.next.getD p 0) :
    Calls Tryd.prog 52 #[.pointer (some ⟨b, 0, none⟩), (⟨kind, p, index, e⟩ : Sn).v] w fun r w' => r = .panicked [{ v := .iface 22 (.int .i64 403), recovered := false }] ∧ Ext w w' := by
  have HX := Lib.hid h
  have HP := Lib.hid hp
  have HL := Lib.hid hl
  obtain ⟨n, hn⟩ : ∃ n, J.next.getD p 0 = n := ⟨_, rfl⟩
  rw [hn] at hle
  have HD : Hid ((index == n) = false) := Lib.hid (by simpa using hle)
  have HN := Lib.hid hn
  clear hn h hle hl
  unfold Sn.v
  go_enter Tryd.func52, Tryd.ntmps52
  go_wp2_with fail
  have bx0 := (Box.new w 37 [.int .i64 kind, .int .i64 (p : Int), .int .i64 index, .int .i64 e.kind, .int .i64 e.member, .int .i64 e.number, .string (bs e.text)])
  have ex : Ext w (w.alloc (Obj.cells #[.int .i64 kind, .int .i64 (p : Int), .int .i64 index, .int .i64 e.kind, .int .i64 e.member, .int .i64 e.number, .string (bs e.text)] 37)) := ((Keeps.refl NoB w).alloc _)
  have sx : (w.alloc (Obj.cells #[.int .i64 kind, .int .i64 (p : Int), .int .i64 index, .int .i64 e.kind, .int .i64 e.member, .int .i64 e.number, .string (bs e.text)] 37)).heap.size = w.heap.size + 1 := by simp
  generalize (w.alloc (Obj.cells #[.int .i64 kind, .int .i64 (p : Int), .int .i64 index, .int .i64 e.kind, .int .i64 e.member, .int .i64 e.number, .string (bs e.text)] 37)) = w0 at bx0 ex sx ⊢
  have Sx := Lib.hid sx
  clear sx
  have BX := Lib.hid bx0
  have HE := Lib.hid ex
  obtain ⟨Ft, tb, mb, hat⟩ := HX.out.ext ex
  have HAT := Lib.hid hat
  have HFB := Lib.hid hat.fb
  have HLT := Lib.hid (let ⟨_, _, _, h⟩ := HX.out; h.lt b h.fb)
  have cn := hat.next p hp
  rw [HN.out] at cn
  have lt := hat.box.lt
  have g1 : (p : Int) < 16 := by omega
  have g2 : ¬ (p : Int) < 0 := by omega
  clear bx0 ex hat hp
  obtain ⟨cBX, zBX⟩ := BX.out.reads
  have lBX := BX.out.lt
  have hE0 : Keeps NoB w0 w0.drew := (Keeps.refl _ _).drew
  refine wp_region_plan [(0, 0), (3, 1), (0, 2), (0, 3), (3, 4), (0, 5), (0, 6), (0, 7), (0, 8), (3, 9), (0, 10)] [] [11, 12] [11, 12] (ClsE w0) (by kernel_rfl) (by kernel_rfl) (by kernel_rfl) rfl rfl (ClsE.of hE0) (fun _ _ _ d _ h => by cases d <;> exact h) ?_; simp only [planL, nL]
  refine pR (v := ?_) rfl (fun W => ?_) ?_; rotate_left; (go_simp <;> with_reducible rfl); simp only [nP]
  refine pX (v := ?_) rfl ?_ ?_; rotate_left; (go_simp <;> with_reducible rfl); simp only [nP]
  refine pM _ rfl rfl ?_; simp only [nP, nE]
  refine pR (v := ?_) rfl (fun W => ?_) ?_; rotate_left; (go_simp <;> with_reducible rfl); simp only [nP]
  refine pX (v := ?_) rfl ?_ ?_; rotate_left; (go_simp <;> with_reducible rfl); simp only [nP]
  iterate 4 (refine pR (v := ?_) rfl (fun W => ?_) ?_; rotate_left; (go_simp <;> with_reducible rfl); simp only [nP])
  refine pX (v := ?_) rfl ?_ ?_; rotate_left; (go_simp <;> with_reducible rfl); simp only [nP]
  refine pR (v := ?_) rfl (fun W => ?_) ?_; rotate_left; (go_simp <;> with_reducible rfl); simp only [nP]
  refine plan_nil ?_; simp only [tailL, List.filterMap_cons, List.filterMap_nil, nL]; change wpList _ _ _ (_ :: _ :: []) _ _
  clear cBX zBX lBX
  go_wp2_with fail
  have by0 := (Box.new w0 4 [.bool (index == n)])
  have ey : Ext w0 (w0.alloc (Obj.cells #[.bool (index == n)] 4)) := ((Keeps.refl NoB w0).alloc _)
  have sy : (w0.alloc (Obj.cells #[.bool (index == n)] 4)).heap.size = w0.heap.size + 1 := by simp
  generalize (w0.alloc (Obj.cells #[.bool (index == n)] 4)) = w1 at by0 ey sy ⊢
  have Sy := Lib.hid sy
  clear sy
  rw [HD.out] at by0
  have HE1 := Lib.hid ((HE.out.ext ey).drew)
  refine (must_bad_1 w1.drew _ 403 false true by0.drew rfl).mono ?_
  rintro r w2 ⟨rfl, rfl⟩
  clear ey by0
  go_wp2_with fail
  exact ⟨rfl, rfl, HE1.out⟩
theorem told_early {F : Nat → Prop} (w : World) (b : Nat) (J : JA) (kind : Int) (p : Nat) (index : Int) (e : En) (h : JudgeX w F b J) (hp : p < 16) (hl : J.T.l.length ≤ 4096) (hle : index = J.next.getD p 0) (hle2 : ¬ index < J.T.l.length) :
    Calls Tryd.prog 52 #[.pointer (some ⟨b, 0, none⟩), (⟨kind, p, index, e⟩ : Sn).v] w fun r w' => r = .panicked [{ v := .iface 22 (.int .i64 405), recovered := false }] ∧ Ext w w' := by
  have HD2 := Lib.hid (decide_eq_false hle2)
  clear hle2
  have HX := Lib.hid h
  have HP := Lib.hid hp
  have HL := Lib.hid hl
  obtain ⟨n, hn⟩ : ∃ n, J.next.getD p 0 = n := ⟨_, rfl⟩
  rw [hn] at hle
  have HD : Hid ((index == n) = true) := Lib.hid (by simpa using hle)
  have HN := Lib.hid hn
  clear hn h hle hl
  unfold Sn.v
  go_enter Tryd.func52, Tryd.ntmps52
  go_wp2_with fail
  have bx0 := (Box.new w 37 [.int .i64 kind, .int .i64 (p : Int), .int .i64 index, .int .i64 e.kind, .int .i64 e.member, .int .i64 e.number, .string (bs e.text)])
  have ex : Ext w (w.alloc (Obj.cells #[.int .i64 kind, .int .i64 (p : Int), .int .i64 index, .int .i64 e.kind, .int .i64 e.member, .int .i64 e.number, .string (bs e.text)] 37)) := ((Keeps.refl NoB w).alloc _)
  have sx : (w.alloc (Obj.cells #[.int .i64 kind, .int .i64 (p : Int), .int .i64 index, .int .i64 e.kind, .int .i64 e.member, .int .i64 e.number, .string (bs e.text)] 37)).heap.size = w.heap.size + 1 := by simp
  generalize (w.alloc (Obj.cells #[.int .i64 kind, .int .i64 (p : Int), .int .i64 index, .int .i64 e.kind, .int .i64 e.member, .int .i64 e.number, .string (bs e.text)] 37)) = w0 at bx0 ex sx ⊢
  have Sx := Lib.hid sx
  clear sx
  have BX := Lib.hid bx0
  have HE := Lib.hid ex
  obtain ⟨Ft, tb, mb, hat⟩ := HX.out.ext ex
  have HAT := Lib.hid hat
  have HFB := Lib.hid hat.fb
  have HLT := Lib.hid (let ⟨_, _, _, h⟩ := HX.out; h.lt b h.fb)
  have cn := hat.next p hp
  rw [HN.out] at cn
  have lt := hat.box.lt
  have g1 : (p : Int) < 16 := by omega
  have g2 : ¬ (p : Int) < 0 := by omega
  clear bx0 ex hat hp
  obtain ⟨cBX, zBX⟩ := BX.out.reads
  have lBX := BX.out.lt
  have hE0 : Keeps NoB w0 w0.drew := (Keeps.refl _ _).drew
  refine wp_region_plan [(0, 0), (3, 1), (0, 2), (0, 3), (3, 4), (0, 5), (0, 6), (0, 7), (0, 8), (3, 9), (0, 10)] [] [11, 12] [11, 12] (ClsE w0) (by kernel_rfl) (by kernel_rfl) (by kernel_rfl) rfl rfl (ClsE.of hE0) (fun _ _ _ d _ h => by cases d <;> exact h) ?_; simp only [planL, nL]
  refine pR (v := ?_) rfl (fun W => ?_) ?_; rotate_left; (go_simp <;> with_reducible rfl); simp only [nP]
  refine pX (v := ?_) rfl ?_ ?_; rotate_left; (go_simp <;> with_reducible rfl); simp only [nP]
  refine pM _ rfl rfl ?_; simp only [nP, nE]
  refine pR (v := ?_) rfl (fun W => ?_) ?_; rotate_left; (go_simp <;> with_reducible rfl); simp only [nP]
  refine pX (v := ?_) rfl ?_ ?_; rotate_left; (go_simp <;> with_reducible rfl); simp only [nP]
  iterate 4 (refine pR (v := ?_) rfl (fun W => ?_) ?_; rotate_left; (go_simp <;> with_reducible rfl); simp only [nP])
  refine pX (v := ?_) rfl ?_ ?_; rotate_left; (go_simp <;> with_reducible rfl); simp only [nP]
  refine pR (v := ?_) rfl (fun W => ?_) ?_; rotate_left; (go_simp <;> with_reducible rfl); simp only [nP]
  refine plan_nil ?_; simp only [tailL, List.filterMap_cons, List.filterMap_nil, nL]; change wpList _ _ _ (_ :: _ :: []) _ _
  clear cBX zBX lBX
  go_wp2_with fail
  have by0 := (Box.new w0 4 [.bool (index == n)])
  have ey : Ext w0 (w0.alloc (Obj.cells #[.bool (index == n)] 4)) := ((Keeps.refl NoB w0).alloc _)
  have sy : (w0.alloc (Obj.cells #[.bool (index == n)] 4)).heap.size = w0.heap.size + 1 := by simp
  generalize (w0.alloc (Obj.cells #[.bool (index == n)] 4)) = w1 at by0 ey sy ⊢
  have Sy := Lib.hid sy
  clear sy
  rw [HD.out] at by0
  have e01 : Ext w0 w1.drew := ey.drew
  replace HE := Lib.hid (HE.out.ext e01)
  replace HAT := Lib.hid (HAT.out.keeps e01 fun _ _ => noB _)
  replace BX := Lib.hid (BX.out.ext e01)
  refine (must_ok_1 w1.drew _ 403 true true by0.drew rfl).mono ?_
  rintro r w2 ⟨rfl, rfl⟩
  clear ey by0 e01 cn lt
  generalize w1.drew = w2 at HE HAT BX ⊢
  obtain ⟨-, -, -, c28, -, lt⟩ := HAT.out.see
  have HT := Lib.hid HAT.out.talk
  obtain ⟨cBX, zBX⟩ := BX.out.reads
  have lBX := BX.out.lt
  go_wp2_with fail
  have hE0 : Keeps NoB w2 w2.drew := (Keeps.refl _ _).drew
  refine wp_region_plan [(0, 0), (1, 1), (0, 2), (0, 3), (0, 4), (3, 5), (2, 6), (0, 7)] [1] [6, 8, 9] [8, 9] (ClsE w2) (by kernel_rfl) (by kernel_rfl) (by kernel_rfl) rfl rfl (ClsE.of hE0) (fun _ _ _ d _ h => by cases d <;> exact h) ?_; simp only [planL, nL]
  refine pR (v := ?_) rfl (fun W => ?_) ?_; rotate_left; (go_simp <;> with_reducible rfl); simp only [nP]
  refine pL (v := ?_) rfl (fun W => ?_) ?_; rotate_left; (go_simp <;> with_reducible rfl); simp only [nP]
  refine pM _ rfl rfl ?_; simp only [nP, nE]
  iterate 2 (refine pR (v := ?_) rfl (fun W => ?_) ?_; rotate_left; (go_simp <;> with_reducible rfl); simp only [nP])
  refine pX (v := ?_) rfl ?_ ?_; rotate_left; (go_simp <;> with_reducible rfl); simp only [nP]
  refine plan_does rfl (fun K hK => ?_)
  go_wp2_with fail
  refine (talk_len _ tb J.T (HT.out.ext hE0)).mono ?_
  rintro r w3 ⟨rfl, rfl⟩
  refine hK _ _ ⟨ClsE.of (by assumption), ?_⟩; clear hK K; try simp only [nP]
  refine pR (v := ?_) rfl (fun W => ?_) ?_; rotate_left; (go_simp <;> with_reducible rfl); simp only [nP]
  refine plan_nil ?_; simp only [tailL, List.filterMap_cons, List.filterMap_nil, nL]; change wpList _ _ _ (_ :: _ :: []) _ _
  clear cBX zBX lBX
  go_wp2_with fail
  have bz0 := (Box.new w2 4 [.bool (decide (index < (J.T.l.length : Int)))])
  have ez : Ext w2 (w2.alloc (Obj.cells #[.bool (decide (index < (J.T.l.length : Int)))] 4)) := ((Keeps.refl NoB w2).alloc _)
  have sz : (w2.alloc (Obj.cells #[.bool (decide (index < (J.T.l.length : Int)))] 4)).heap.size = w2.heap.size + 1 := by simp
  generalize (w2.alloc (Obj.cells #[.bool (decide (index < (J.T.l.length : Int)))] 4)) = w4 at bz0 ez sz ⊢
  have Sz := Lib.hid sz
  clear sz
  rw [HD2.out] at bz0
  have HE1 := Lib.hid ((HE.out.ext ez).drew)
  refine (must_bad_1 w4.drew _ 405 false true bz0.drew rfl).mono ?_
  rintro r w5 ⟨rfl, rfl⟩
  clear ez bz0
  go_wp2_with fail
  exact ⟨rfl, rfl, HE1.out⟩
theorem told_two {F : Nat → Prop} (w : World) (b : Nat) (J : JA) (kind : Int) (p : Nat) (index : Int) (e : En) (h : JudgeX w F b J) (hp : p < 16) (hl : J.T.l.length ≤ 4096) (hle : index = J.next.getD p 0) (hle2 : index < J.T.l.length) (hle3 : hasB J.T.l index e = false) :
    Calls Tryd.prog 52 #[.pointer (some ⟨b, 0, none⟩), (⟨kind, p, index, e⟩ : Sn).v] w fun r w' => r = .panicked [{ v := .iface 22 (.int .i64 400), recovered := false }] ∧ Ext w w' := by
  have HD2 := Lib.hid (decide_eq_true hle2)
  have HD3 := Lib.hid hle3
  clear hle2 hle3
  have HX := Lib.hid h
  have HP := Lib.hid hp
  have HL := Lib.hid hl
  obtain ⟨n, hn⟩ : ∃ n, J.next.getD p 0 = n := ⟨_, rfl⟩
  rw [hn] at hle
  have HD : Hid ((index == n) = true) := Lib.hid (by simpa using hle)
  have HN := Lib.hid hn
  clear hn h hle hl
  unfold Sn.v
  go_enter Tryd.func52, Tryd.ntmps52
  go_wp2_with fail
  have bx0 := (Box.new w 37 [.int .i64 kind, .int .i64 (p : Int), .int .i64 index, .int .i64 e.kind, .int .i64 e.member, .int .i64 e.number, .string (bs e.text)])
  have ex : Ext w (w.alloc (Obj.cells #[.int .i64 kind, .int .i64 (p : Int), .int .i64 index, .int .i64 e.kind, .int .i64 e.member, .int .i64 e.number, .string (bs e.text)] 37)) := ((Keeps.refl NoB w).alloc _)
  have sx : (w.alloc (Obj.cells #[.int .i64 kind, .int .i64 (p : Int), .int .i64 index, .int .i64 e.kind, .int .i64 e.member, .int .i64 e.number, .string (bs e.text)] 37)).heap.size = w.heap.size + 1 := by simp
  generalize (w.alloc (Obj.cells #[.int .i64 kind, .int .i64 (p : Int), .int .i64 index, .int .i64 e.kind, .int .i64 e.member, .int .i64 e.number, .string (bs e.text)] 37)) = w0 at bx0 ex sx ⊢
  have Sx := Lib.hid sx
  clear sx
  have BX := Lib.hid bx0
  have HE := Lib.hid ex
  obtain ⟨Ft, tb, mb, hat⟩ := HX.out.ext ex
  have HAT := Lib.hid hat
  have HFB := Lib.hid hat.fb
  have HLT := Lib.hid (let ⟨_, _, _, h⟩ := HX.out; h.lt b h.fb)
  have cn := hat.next p hp
  rw [HN.out] at cn
  have lt := hat.box.lt
  have g1 : (p : Int) < 16 := by omega
  have g2 : ¬ (p : Int) < 0 := by omega
  clear bx0 ex hat hp
  obtain ⟨cBX, zBX⟩ := BX.out.reads
  have lBX := BX.out.lt
  have hE0 : Keeps NoB w0 w0.drew := (Keeps.refl _ _).drew
  refine wp_region_plan [(0, 0), (3, 1), (0, 2), (0, 3), (3, 4), (0, 5), (0, 6), (0, 7), (0, 8), (3, 9), (0, 10)] [] [11, 12] [11, 12] (ClsE w0) (by kernel_rfl) (by kernel_rfl) (by kernel_rfl) rfl rfl (ClsE.of hE0) (fun _ _ _ d _ h => by cases d <;> exact h) ?_; simp only [planL, nL]
  refine pR (v := ?_) rfl (fun W => ?_) ?_; rotate_left; (go_simp <;> with_reducible rfl); simp only [nP]
  refine pX (v := ?_) rfl ?_ ?_; rotate_left; (go_simp <;> with_reducible rfl); simp only [nP]
  refine pM _ rfl rfl ?_; simp only [nP, nE]
  refine pR (v := ?_) rfl (fun W => ?_) ?_; rotate_left; (go_simp <;> with_reducible rfl); simp only [nP]
  refine pX (v := ?_) rfl ?_ ?_; rotate_left; (go_simp <;> with_reducible rfl); simp only [nP]
  iterate 4 (refine pR (v := ?_) rfl (fun W => ?_) ?_; rotate_left; (go_simp <;> with_reducible rfl); simp only [nP])
  refine pX (v := ?_) rfl ?_ ?_; rotate_left; (go_simp <;> with_reducible rfl); simp only [nP]
  refine pR (v := ?_) rfl (fun W => ?_) ?_; rotate_left; (go_simp <;> with_reducible rfl); simp only [nP]
  refine plan_nil ?_; simp only [tailL, List.filterMap_cons, List.filterMap_nil, nL]; change wpList _ _ _ (_ :: _ :: []) _ _
  clear cBX zBX lBX
  go_wp2_with fail
  have by0 := (Box.new w0 4 [.bool (index == n)])
  have ey : Ext w0 (w0.alloc (Obj.cells #[.bool (index == n)] 4)) := ((Keeps.refl NoB w0).alloc _)
  have sy : (w0.alloc (Obj.cells #[.bool (index == n)] 4)).heap.size = w0.heap.size + 1 := by simp
  generalize (w0.alloc (Obj.cells #[.bool (index == n)] 4)) = w1 at by0 ey sy ⊢
  have Sy := Lib.hid sy
  clear sy
  rw [HD.out] at by0
  have e01 : Ext w0 w1.drew := ey.drew
  replace HE := Lib.hid (HE.out.ext e01)
  replace HAT := Lib.hid (HAT.out.keeps e01 fun _ _ => noB _)
  replace BX := Lib.hid (BX.out.ext e01)
  refine (must_ok_1 w1.drew _ 403 true true by0.drew rfl).mono ?_
  rintro r w2 ⟨rfl, rfl⟩
  clear ey by0 e01 cn lt
  generalize w1.drew = w2 at HE HAT BX ⊢
  obtain ⟨-, -, -, c28, -, lt⟩ := HAT.out.see
  have HT := Lib.hid HAT.out.talk
  obtain ⟨cBX, zBX⟩ := BX.out.reads
  have lBX := BX.out.lt
  go_wp2_with fail
  have hE0 : Keeps NoB w2 w2.drew := (Keeps.refl _ _).drew
  refine wp_region_plan [(0, 0), (1, 1), (0, 2), (0, 3), (0, 4), (3, 5), (2, 6), (0, 7)] [1] [6, 8, 9] [8, 9] (ClsE w2) (by kernel_rfl) (by kernel_rfl) (by kernel_rfl) rfl rfl (ClsE.of hE0) (fun _ _ _ d _ h => by cases d <;> exact h) ?_; simp only [planL, nL]
  refine pR (v := ?_) rfl (fun W => ?_) ?_; rotate_left; (go_simp <;> with_reducible rfl); simp only [nP]
  refine pL (v := ?_) rfl (fun W => ?_) ?_; rotate_left; (go_simp <;> with_reducible rfl); simp only [nP]
  refine pM _ rfl rfl ?_; simp only [nP, nE]
  iterate 2 (refine pR (v := ?_) rfl (fun W => ?_) ?_; rotate_left; (go_simp <;> with_reducible rfl); simp only [nP])
  refine pX (v := ?_) rfl ?_ ?_; rotate_left; (go_simp <;> with_reducible rfl); simp only [nP]
  refine plan_does rfl (fun K hK => ?_)
  go_wp2_with fail
  refine (talk_len _ tb J.T (HT.out.ext hE0)).mono ?_
  rintro r w3 ⟨rfl, rfl⟩
  refine hK _ _ ⟨ClsE.of (by assumption), ?_⟩; clear hK K; try simp only [nP]
  refine pR (v := ?_) rfl (fun W => ?_) ?_; rotate_left; (go_simp <;> with_reducible rfl); simp only [nP]
  refine plan_nil ?_; simp only [tailL, List.filterMap_cons, List.filterMap_nil, nL]; change wpList _ _ _ (_ :: _ :: []) _ _
  clear cBX zBX lBX
  go_wp2_with fail
  have bz0 := (Box.new w2 4 [.bool (decide (index < (J.T.l.length : Int)))])
  have ez : Ext w2 (w2.alloc (Obj.cells #[.bool (decide (index < (J.T.l.length : Int)))] 4)) := ((Keeps.refl NoB w2).alloc _)
  have sz : (w2.alloc (Obj.cells #[.bool (decide (index < (J.T.l.length : Int)))] 4)).heap.size = w2.heap.size + 1 := by simp
  generalize (w2.alloc (Obj.cells #[.bool (decide (index < (J.T.l.length : Int)))] 4)) = w4 at bz0 ez sz ⊢
  have Sz := Lib.hid sz
  clear sz
  rw [HD2.out] at bz0
  have e24 : Ext w2 w4.drew := ez.drew
  replace HE := Lib.hid (HE.out.ext e24)
  replace HAT := Lib.hid (HAT.out.keeps e24 fun _ _ => noB _)
  replace BX := Lib.hid (BX.out.ext e24)
  refine (must_ok_1 w4.drew _ 405 true true bz0.drew rfl).mono ?_
  rintro r w5 ⟨rfl, rfl⟩
  clear ez bz0 e24 c28 lt hE0
  generalize w4.drew = w5 at HE HAT BX ⊢
  obtain ⟨cBX, zBX⟩ := BX.out.reads
  have lBX := BX.out.lt
  go_wp2_with fail
  clear cBX zBX lBX
  refine (has_any w5 b J index e ⟨Ft, tb, mb, HAT.out⟩ HL.out).mono ?_
  rintro r w6 ⟨rfl, hE6⟩
  rw [HD3.out]
  replace HE := Lib.hid (HE.out.ext hE6)
  replace HAT := Lib.hid (HAT.out.keeps hE6 fun _ _ => noB _)
  replace BX := Lib.hid (BX.out.ext hE6)
  clear hE6
  go_wp2_with fail
  have bu0 := (Box.new w6 4 [.bool false])
  have eu : Ext w6 (w6.alloc (Obj.cells #[.bool false] 4)) := ((Keeps.refl NoB w6).alloc _)
  have su : (w6.alloc (Obj.cells #[.bool false] 4)).heap.size = w6.heap.size + 1 := by simp
  generalize (w6.alloc (Obj.cells #[.bool false] 4)) = w7 at bu0 eu su ⊢
  have Su := Lib.hid su
  clear su
  have HE1 := Lib.hid (HE.out.ext eu)
  refine (must_bad_1 w7 _ 400 false true bu0 rfl).mono ?_
  rintro r w8 ⟨rfl, rfl⟩
  clear eu bu0
  go_wp2_with fail
  exact ⟨rfl, rfl, HE1.out⟩
theorem told_ok {F : Nat → Prop} (w : World) (b : Nat) (J : JA) (kind : Int) (p : Nat) (index : Int) (e : En) (h : JudgeX w F b J) (hp : p < 16) (hl : J.T.l.length ≤ 4096) (hle : index = J.next.getD p 0) (hle2 : index < J.T.l.length) (hle3 : hasB J.T.l index e = true) :
    Calls Tryd.prog 52 #[.pointer (some ⟨b, 0, none⟩), (⟨kind, p, index, e⟩ : Sn).v] w fun r w' => r = .returned (.tuple #[]) ∧ JudgeX w' F b { J with next := J.next.set p (index + 1) } ∧ Keeps F w w' := by
  have h0 : 0 ≤ index := by
    unfold hasB at hle3
    rw [Bool.and_eq_true] at hle3
    exact of_decide_eq_true hle3.1
  have hww : wrap64 (index + 1) = index + 1 := IntWalk.wrap64_in _ (by omega)
  have HWW := Lib.hid hww
  have HD2 := Lib.hid (decide_eq_true hle2)
  have HD3 := Lib.hid hle3
  have HEQ := Lib.hid hle
  clear hle2 hle3 h0 hww
  have HX := Lib.hid h
  have HP := Lib.hid hp
  have HL := Lib.hid hl
  obtain ⟨n, hn⟩ : ∃ n, J.next.getD p 0 = n := ⟨_, rfl⟩
  rw [hn] at hle
  have HD : Hid ((index == n) = true) := Lib.hid (by simpa using hle)
  have HN := Lib.hid hn
  clear hn h hle hl
  unfold Sn.v
  go_enter Tryd.func52, Tryd.ntmps52
  go_wp2_with fail
  have bx0 := (Box.new w 37 [.int .i64 kind, .int .i64 (p : Int), .int .i64 index, .int .i64 e.kind, .int .i64 e.member, .int .i64 e.number, .string (bs e.text)])
  have ex : Ext w (w.alloc (Obj.cells #[.int .i64 kind, .int .i64 (p : Int), .int .i64 index, .int .i64 e.kind, .int .i64 e.member, .int .i64 e.number, .string (bs e.text)] 37)) := ((Keeps.refl NoB w).alloc _)
  have sx : (w.alloc (Obj.cells #[.int .i64 kind, .int .i64 (p : Int), .int .i64 index, .int .i64 e.kind, .int .i64 e.member, .int .i64 e.number, .string (bs e.text)] 37)).heap.size = w.heap.size + 1 := by simp
  generalize (w.alloc (Obj.cells #[.int .i64 kind, .int .i64 (p : Int), .int .i64 index, .int .i64 e.kind, .int .i64 e.member, .int .i64 e.number, .string (bs e.text)] 37)) = w0 at bx0 ex sx ⊢
  have Sx := Lib.hid sx
  clear sx
  have BX := Lib.hid bx0
  have HE := Lib.hid ex
  obtain ⟨Ft, tb, mb, hat⟩ := HX.out.ext ex
  have HAT := Lib.hid hat
  have HFB := Lib.hid hat.fb
  have HLT := Lib.hid (let ⟨_, _, _, h⟩ := HX.out; h.lt b h.fb)
  have cn := hat.next p hp
  rw [HN.out] at cn
  have lt := hat.box.lt
  have g1 : (p : Int) < 16 := by omega
  have g2 : ¬ (p : Int) < 0 := by omega
  clear bx0 ex hat hp
  obtain ⟨cBX, zBX⟩ := BX.out.reads
  have lBX := BX.out.lt
  have hE0 : Keeps NoB w0 w0.drew := (Keeps.refl _ _).drew
  refine wp_region_plan [(0, 0), (3, 1), (0, 2), (0, 3), (3, 4), (0, 5), (0, 6), (0, 7), (0, 8), (3, 9), (0, 10)] [] [11, 12] [11, 12] (ClsE w0) (by kernel_rfl) (by kernel_rfl) (by kernel_rfl) rfl rfl (ClsE.of hE0) (fun _ _ _ d _ h => by cases d <;> exact h) ?_; simp only [planL, nL]
  refine pR (v := ?_) rfl (fun W => ?_) ?_; rotate_left; (go_simp <;> with_reducible rfl); simp only [nP]
  refine pX (v := ?_) rfl ?_ ?_; rotate_left; (go_simp <;> with_reducible rfl); simp only [nP]
  refine pM _ rfl rfl ?_; simp only [nP, nE]
  refine pR (v := ?_) rfl (fun W => ?_) ?_; rotate_left; (go_simp <;> with_reducible rfl); simp only [nP]
  refine pX (v := ?_) rfl ?_ ?_; rotate_left; (go_simp <;> with_reducible rfl); simp only [nP]
  iterate 4 (refine pR (v := ?_) rfl (fun W => ?_) ?_; rotate_left; (go_simp <;> with_reducible rfl); simp only [nP])
  refine pX (v := ?_) rfl ?_ ?_; rotate_left; (go_simp <;> with_reducible rfl); simp only [nP]
  refine pR (v := ?_) rfl (fun W => ?_) ?_; rotate_left; (go_simp <;> with_reducible rfl); simp only [nP]
  refine plan_nil ?_; simp only [tailL, List.filterMap_cons, List.filterMap_nil, nL]; change wpList _ _ _ (_ :: _ :: []) _ _
  clear cBX zBX lBX
  go_wp2_with fail
  have by0 := (Box.new w0 4 [.bool (index == n)])
  have ey : Ext w0 (w0.alloc (Obj.cells #[.bool (index == n)] 4)) := ((Keeps.refl NoB w0).alloc _)
  have sy : (w0.alloc (Obj.cells #[.bool (index == n)] 4)).heap.size = w0.heap.size + 1 := by simp
  generalize (w0.alloc (Obj.cells #[.bool (index == n)] 4)) = w1 at by0 ey sy ⊢
  have Sy := Lib.hid sy
  clear sy
  rw [HD.out] at by0
  have e01 : Ext w0 w1.drew := ey.drew
  replace HE := Lib.hid (HE.out.ext e01)
  replace HAT := Lib.hid (HAT.out.keeps e01 fun _ _ => noB _)
  replace BX := Lib.hid (BX.out.ext e01)
  refine (must_ok_1 w1.drew _ 403 true true by0.drew rfl).mono ?_
  rintro r w2 ⟨rfl, rfl⟩
  clear ey by0 e01 cn lt
  generalize w1.drew = w2 at HE HAT BX ⊢
  obtain ⟨-, -, -, c28, -, lt⟩ := HAT.out.see
  have HT := Lib.hid HAT.out.talk
  obtain ⟨cBX, zBX⟩ := BX.out.reads
  have lBX := BX.out.lt
  go_wp2_with fail
  have hE0 : Keeps NoB w2 w2.drew := (Keeps.refl _ _).drew
  refine wp_region_plan [(0, 0), (1, 1), (0, 2), (0, 3), (0, 4), (3, 5), (2, 6), (0, 7)] [1] [6, 8, 9] [8, 9] (ClsE w2) (by kernel_rfl) (by kernel_rfl) (by kernel_rfl) rfl rfl (ClsE.of hE0) (fun _ _ _ d _ h => by cases d <;> exact h) ?_; simp only [planL, nL]
  refine pR (v := ?_) rfl (fun W => ?_) ?_; rotate_left; (go_simp <;> with_reducible rfl); simp only [nP]
  refine pL (v := ?_) rfl (fun W => ?_) ?_; rotate_left; (go_simp <;> with_reducible rfl); simp only [nP]
  refine pM _ rfl rfl ?_; simp only [nP, nE]
  iterate 2 (refine pR (v := ?_) rfl (fun W => ?_) ?_; rotate_left; (go_simp <;> with_reducible rfl); simp only [nP])
  refine pX (v := ?_) rfl ?_ ?_; rotate_left; (go_simp <;> with_reducible rfl); simp only [nP]
  refine plan_does rfl (fun K hK => ?_)
  go_wp2_with fail
  refine (talk_len _ tb J.T (HT.out.ext hE0)).mono ?_
  rintro r w3 ⟨rfl, rfl⟩
  refine hK _ _ ⟨ClsE.of (by assumption), ?_⟩; clear hK K; try simp only [nP]
  refine pR (v := ?_) rfl (fun W => ?_) ?_; rotate_left; (go_simp <;> with_reducible rfl); simp only [nP]
  refine plan_nil ?_; simp only [tailL, List.filterMap_cons, List.filterMap_nil, nL]; change wpList _ _ _ (_ :: _ :: []) _ _
  clear cBX zBX lBX
  go_wp2_with fail
  have bz0 := (Box.new w2 4 [.bool (decide (index < (J.T.l.length : Int)))])
  have ez : Ext w2 (w2.alloc (Obj.cells #[.bool (decide (index < (J.T.l.length : Int)))] 4)) := ((Keeps.refl NoB w2).alloc _)
  have sz : (w2.alloc (Obj.cells #[.bool (decide (index < (J.T.l.length : Int)))] 4)).heap.size = w2.heap.size + 1 := by simp
  generalize (w2.alloc (Obj.cells #[.bool (decide (index < (J.T.l.length : Int)))] 4)) = w4 at bz0 ez sz ⊢
  have Sz := Lib.hid sz
  clear sz
  rw [HD2.out] at bz0
  have e24 : Ext w2 w4.drew := ez.drew
  replace HE := Lib.hid (HE.out.ext e24)
  replace HAT := Lib.hid (HAT.out.keeps e24 fun _ _ => noB _)
  replace BX := Lib.hid (BX.out.ext e24)
  refine (must_ok_1 w4.drew _ 405 true true bz0.drew rfl).mono ?_
  rintro r w5 ⟨rfl, rfl⟩
  clear ez bz0 e24 c28 lt hE0
  generalize w4.drew = w5 at HE HAT BX ⊢
  obtain ⟨cBX, zBX⟩ := BX.out.reads
  have lBX := BX.out.lt
  go_wp2_with fail
  clear cBX zBX lBX
  refine (has_any w5 b J index e ⟨Ft, tb, mb, HAT.out⟩ HL.out).mono ?_
  rintro r w6 ⟨rfl, hE6⟩
  rw [HD3.out]
  replace HE := Lib.hid (HE.out.ext hE6)
  replace HAT := Lib.hid (HAT.out.keeps hE6 fun _ _ => noB _)
  replace BX := Lib.hid (BX.out.ext hE6)
  clear hE6
  go_wp2_with fail
  have bu0 := (Box.new w6 4 [.bool true])
  have eu : Ext w6 (w6.alloc (Obj.cells #[.bool true] 4)) := ((Keeps.refl NoB w6).alloc _)
  have su : (w6.alloc (Obj.cells #[.bool true] 4)).heap.size = w6.heap.size + 1 := by simp
  generalize (w6.alloc (Obj.cells #[.bool true] 4)) = w7 at bu0 eu su ⊢
  have Su := Lib.hid su
  clear su
  replace HE := Lib.hid (HE.out.ext eu)
  replace HAT := Lib.hid (HAT.out.keeps eu fun _ _ => noB _)
  replace BX := Lib.hid (BX.out.ext eu)
  refine (must_ok_1 w7 _ 400 true true bu0 rfl).mono ?_
  rintro r w8 ⟨rfl, rfl⟩
  clear eu bu0
  have cn := HAT.out.next p HP.out
  rw [← HEQ.out] at cn
  have lt := HAT.out.box.lt
  have zz := HAT.out.box.reads.2
  have n0 : ¬ OneB b w.heap.size := by have := HLT.out; unfold OneB; omega
  obtain ⟨cBX, zBX⟩ := BX.out.reads
  have lBX := BX.out.lt
  go_wp2_with fail
  have hE0 : Keeps (OneB b) w8 w8.drew := (Keeps.refl _ _).drew
  refine wp_region_plan [(0, 0), (0, 1), (3, 2), (0, 3), (0, 4), (0, 5), (0, 6), (3, 7), (0, 8), (0, 9), (0, 10), (0, 11), (0, 12)] [] [13] [13] (ClsK (OneB b) w8) (by kernel_rfl) (by kernel_rfl) (by kernel_rfl) rfl rfl (ClsK.of hE0) (fun _ _ _ d _ h => by cases d <;> exact h) ?_; simp only [planL, nL]
  refine pM _ rfl rfl ?_; simp only [nP, nE]
  refine pR (v := ?_) rfl (fun W => ?_) ?_; rotate_left; (go_simp <;> with_reducible rfl); simp only [nP]
  refine pX (v := ?_) rfl ?_ ?_; rotate_left; (go_simp <;> with_reducible rfl); simp only [nP]
  iterate 4 (refine pR (v := ?_) rfl (fun W => ?_) ?_; rotate_left; (go_simp <;> with_reducible rfl); simp only [nP])
  refine pX (v := ?_) rfl ?_ ?_; rotate_left; (go_simp <;> with_reducible rfl); simp only [nP]
  iterate 5 (refine pR (v := ?_) rfl (fun W => ?_) ?_; rotate_left; (go_simp <;> with_reducible rfl); simp only [nP])
  refine plan_nil ?_; simp only [tailL, List.filterMap_cons, List.filterMap_nil, nL]; change wpList _ _ _ (_ :: []) _ _
  clear cBX zBX lBX
  go_wp2_with fail
  go_end0
  rw [HWW.out]
  have hk : Keeps (OneB b) w8 (w8.setCell ⟨b, 9 + p, none⟩ (.int .i64 (index + 1))) := (Keeps.refl _ _).setOne _ _
  have hat := (HAT.out.putNext p HP.out (index + 1)).keeps (S := NoB) ((Keeps.refl _ _).drew) (fun _ _ => noB _)
  exact ⟨rfl, ⟨Ft, tb, mb, hat⟩, ((Ext.keeps HE.out).then hk (fun i hi h => by obtain rfl : i = b := h; exact HFB.out)).drew⟩
end Go.Proofs.YthhdgjofagdjeaaDoor
end
section
/- What a judge does with a thing seen: an entry was put in. Condition: the judge lies as 'JudgeAt' says. -/
set_option linter.unusedVariables false
set_option linter.unusedSimpArgs false
set_option maxHeartbeats 1000000
set_option maxRecDepth 10000
namespace Go.Proofs.YthhdgjofagdjeaaDoor
open Go.RowKit

theorem put_bad {F : Nat → Prop} (w : World) (b : Nat) (J : JA) (kind who index : Int) (e : En) (h : JudgeX w F b J) (hle : ¬ e.member = who) :
    Calls Tryd.prog 44 #[.pointer (some ⟨b, 0, none⟩), (⟨kind, who, index, e⟩ : Sn).v] w fun r w' => r = .panicked [{ v := .iface 22 (.int .i64 406), recovered := false }] ∧ Ext w w' := by
  have HX := Lib.hid h
  have HD : Hid ((e.member == who) = false) := Lib.hid (by simpa using hle)
  clear h hle
  unfold Sn.v
  go_enter Tryd.func44, Tryd.ntmps44
  go_wp2_with fail
  have bx0 := ((Box.new w 37 [.int .i64 kind, .int .i64 who, .int .i64 index, .int .i64 e.kind, .int .i64 e.member, .int .i64 e.number, .string (bs e.text)]).alloc (Obj.cells #[.bool (e.member == who)] 4))
  have bx1 := (Box.new (w.alloc (Obj.cells #[.int .i64 kind, .int .i64 who, .int .i64 index, .int .i64 e.kind, .int .i64 e.member, .int .i64 e.number, .string (bs e.text)] 37)) 4 [.bool (e.member == who)])
  have ex : Ext w ((w.alloc (Obj.cells #[.int .i64 kind, .int .i64 who, .int .i64 index, .int .i64 e.kind, .int .i64 e.member, .int .i64 e.number, .string (bs e.text)] 37)).alloc (Obj.cells #[.bool (e.member == who)] 4)) := (((Keeps.refl NoB w).alloc _).alloc _)
  have sx : ((w.alloc (Obj.cells #[.int .i64 kind, .int .i64 who, .int .i64 index, .int .i64 e.kind, .int .i64 e.member, .int .i64 e.number, .string (bs e.text)] 37)).alloc (Obj.cells #[.bool (e.member == who)] 4)).heap.size = w.heap.size + 2 := by simp
  simp only [World.size_alloc] at bx1
  generalize ((w.alloc (Obj.cells #[.int .i64 kind, .int .i64 who, .int .i64 index, .int .i64 e.kind, .int .i64 e.member, .int .i64 e.number, .string (bs e.text)] 37)).alloc (Obj.cells #[.bool (e.member == who)] 4)) = w1 at bx0 bx1 ex sx ⊢
  have Sx := Lib.hid sx
  clear sx
  have BX := Lib.hid bx0
  have HE := Lib.hid ex
  rw [HD.out] at bx1
  refine (must_bad_1 w1 _ 406 false true bx1 rfl).mono ?_
  rintro r w2 ⟨rfl, rfl⟩
  clear ex bx0 bx1
  go_wp2_with fail
  exact ⟨rfl, rfl, HE.out⟩
def JA.putIn (J : JA) (e : En) : JA := { J with put := if e ∈ J.put then J.put else J.put ++ [e] }
theorem put_ok {F : Nat → Prop} (w : World) (b : Nat) (J : JA) (kind who index : Int) (e : En) (h : JudgeX w F b J) (ho : OkE e) (hle : e.member = who) :
    Calls Tryd.prog 44 #[.pointer (some ⟨b, 0, none⟩), (⟨kind, who, index, e⟩ : Sn).v] w fun r w' => r = .returned (.tuple #[]) ∧ JudgeX w' F b (J.putIn e) ∧ Keeps F w w' := by
  have HO := Lib.hid ho
  clear ho
  have HX := Lib.hid h
  have HD : Hid ((e.member == who) = true) := Lib.hid (by simpa using hle)
  clear h hle
  unfold Sn.v
  go_enter Tryd.func44, Tryd.ntmps44
  go_wp2_with fail
  have bx0 := ((Box.new w 37 [.int .i64 kind, .int .i64 who, .int .i64 index, .int .i64 e.kind, .int .i64 e.member, .int .i64 e.number, .string (bs e.text)]).alloc (Obj.cells #[.bool (e.member == who)] 4))
  have bx1 := (Box.new (w.alloc (Obj.cells #[.int .i64 kind, .int .i64 who, .int .i64 index, .int .i64 e.kind, .int .i64 e.member, .int .i64 e.number, .string (bs e.text)] 37)) 4 [.bool (e.member == who)])
  have ex : Ext w ((w.alloc (Obj.cells #[.int .i64 kind, .int .i64 who, .int .i64 index, .int .i64 e.kind, .int .i64 e.member, .int .i64 e.number, .string (bs e.text)] 37)).alloc (Obj.cells #[.bool (e.member == who)] 4)) := (((Keeps.refl NoB w).alloc _).alloc _)
  have sx : ((w.alloc (Obj.cells #[.int .i64 kind, .int .i64 who, .int .i64 index, .int .i64 e.kind, .int .i64 e.member, .int .i64 e.number, .string (bs e.text)] 37)).alloc (Obj.cells #[.bool (e.member == who)] 4)).heap.size = w.heap.size + 2 := by simp
  simp only [World.size_alloc] at bx1
  generalize ((w.alloc (Obj.cells #[.int .i64 kind, .int .i64 who, .int .i64 index, .int .i64 e.kind, .int .i64 e.member, .int .i64 e.number, .string (bs e.text)] 37)).alloc (Obj.cells #[.bool (e.member == who)] 4)) = w1 at bx0 bx1 ex sx ⊢
  have Sx := Lib.hid sx
  clear sx
  have BX := Lib.hid bx0
  have HE := Lib.hid ex
  rw [HD.out] at bx1
  refine (must_ok_1 w1 _ 406 true true bx1 rfl).mono ?_
  rintro r w2 ⟨rfl, rfl⟩
  obtain ⟨Ft, tb, mb, hat⟩ := HX.out.ext ex
  have HAT := Lib.hid hat
  have hstep : ∃ w3, (Instr.mapUpdate 72 (.map (some mb)) e.v (.bool true)).run Tryd.prog w2.drew = .ok () w3 ∧ EnSet w3 mb (J.putIn e).put ∧ Keeps (OneB mb) w2.drew w3 := by
    unfold JA.putIn
    by_cases hm : e ∈ J.put
    · rw [if_pos hm]
      exact run_enput_same (hat.map.ext (Ext.drew0 _)) HO.out hm
    · rw [if_neg hm]
      exact run_enput (hat.map.ext (Ext.drew0 _)) HO.out hm
  obtain ⟨w3, hr3, hs3, hk3⟩ := hstep
  unfold En.v at hr3
  have HS3 := Lib.hid hs3
  have HK3 := Lib.hid hk3
  obtain ⟨-, -, -, -, c29, lt⟩ := HAT.out.see
  clear ex bx0 bx1 hat hs3 hk3
  obtain ⟨cBX, zBX⟩ := BX.out.reads
  have lBX := BX.out.lt
  go_wp2_with fail
  have hE0 : Keeps NoB w2 w2.drew := (Keeps.refl _ _).drew
  refine wp_region_plan [(0, 0), (0, 1), (0, 2), (3, 3), (0, 4), (3, 5)] [] [6] [6] (ClsE w2) (by kernel_rfl) (by kernel_rfl) (by kernel_rfl) rfl rfl (ClsE.of hE0) (fun _ _ _ d _ h => by cases d <;> exact h) ?_; simp only [planL, nL]
  refine pM _ rfl rfl ?_; simp only [nP, nE]
  iterate 2 (refine pR (v := ?_) rfl (fun W => ?_) ?_; rotate_left; (go_simp <;> with_reducible rfl); simp only [nP])
  refine pX (v := ?_) rfl ?_ ?_; rotate_left; (go_simp <;> with_reducible rfl); simp only [nP]
  refine pR (v := ?_) rfl (fun W => ?_) ?_; rotate_left; (go_simp <;> with_reducible rfl); simp only [nP]
  refine pX (v := ?_) rfl ?_ ?_; rotate_left; (go_simp <;> with_reducible rfl); simp only [nP]
  refine plan_nil ?_; simp only [tailL, List.filterMap_cons, List.filterMap_nil, nL]; change wpList _ _ _ (_ :: []) _ _
  clear cBX zBX lBX
  go_wp2_with fail
  go_end0
  have hk : Keeps (OneB mb) w2 w3 := (Ext.keeps (Ext.drew0 w2)).trans HK3.out
  have hA := HAT.out
  refine ⟨rfl, ⟨Ft, tb, mb, { box := hA.box.keeps hk (fun h => hA.bm h), talk := hA.talk.keeps hk (fun k hF h9 => hA.nm (by have h8 : k = mb := h9; rw [← h8]; exact hF)), map := HS3.out, fb := hA.fb, fm := hA.fm, ft := hA.ft, nb := hA.nb, nm := hA.nm, bm := hA.bm, lt := fun k hF => Nat.lt_of_lt_of_le (hA.lt k hF) hk.size, l9 := hA.l9, l16 := hA.l16 }⟩, (Ext.keeps HE.out).then hk (fun i hi h => by obtain rfl : i = mb := h; exact hA.fm)⟩
end Go.Proofs.YthhdgjofagdjeaaDoor
end
