/- What a judge's whole hands on, one by one. Condition: the function lies over a copy, as 'WholeV' says. -/
import Derived.Test.YthhdgjofagdjeaaDoorJP
import Derived.Test.YthhdgjofagdjeaaDoorRange
set_option linter.unusedVariables false
set_option linter.unusedSimpArgs false
set_option maxHeartbeats 1000000
set_option maxRecDepth 10000
namespace Go.Proofs.YthhdgjofagdjeaaDoor
open Go.RowKit

def wholeL (l : List Ln) : List (Int × En) := l.zipIdx.map fun p => ((p.2 : Int), p.1.e)
theorem wholeL_len (l : List Ln) : (wholeL l).length = l.length := by simp [wholeL]
theorem wholeL_get (l : List Ln) (k : Nat) (hk : k < (wholeL l).length) : (wholeL l)[k] = ((k : Int), (l[k]'(by rw [wholeL_len] at hk; exact hk)).e) := by simp [wholeL]
def HandsOn (p : Int × En) (v : Array Value) (_ _ : World) : Prop := v = #[.int .i64 p.1, p.2.v]
theorem iter_whole {F S : Nat → Prop} (w0 : World) (q b : Nat) (T : TA) (hb : Box w0 q 63 [.pointer (some ⟨b, 0, none⟩)]) (hT : TalkX w0 F b T) (hS : ¬ S q) (hF : ∀ k, F k → ¬ S k) (hl : T.l.length ≤ 4096) :
    IterOK Fence.wide 8 Tryd.prog 33 #[.pointer (some ⟨q, 0, none⟩)] (wholeL T.l) HandsOn S w0 := by
  intro ll J Jx W hll hJk hJs hJ hJx hround h0
  have hk0 := hJk 0 W h0
  rw [wholeL_len]
  have HB := Lib.hid hb
  have HT := Lib.hid hT
  have HR := Lib.hid hround
  have HJk := Lib.hid hJk
  have HJs := Lib.hid hJs
  have HJ := Lib.hid hJ
  have hB0 := Lib.hid (hb.keeps hk0 hS)
  have hT0 := Lib.hid (hT.keeps hk0 hF)
  clear hround hJk hJs hJ hk0 hb hT
  refine callsIn_of_wp Tryd.func33 rfl trivial ?_ rfl
  simp only [Tryd.ntmps33, List.size_toArray, List.length_cons, List.length_nil, Nat.reduceAdd, Nat.reduceSub, Array.replicate_succ, Array.replicate_zero, List.push_toArray, List.append_toArray, List.nil_append, List.cons_append]
  refine wpIn_scope ?_
  gi_wp2
  refine wpIn_label ?_
  obtain ⟨chB0, zhB0⟩ := hB0.out.reads
  have lhB0 := hB0.out.lt
  gi_wp2_with fail
  refine ⟨trivial, callsIn_wide.2 ((talk_len _ b T hT0.out).mono ?_)⟩
  rintro e w' ⟨rfl, rfl⟩
  clear chB0 zhB0 lhB0
  gi_wp2_with fail
  gi_loopw [8] (fun t wr => ∃ k : Nat, k ≤ T.l.length ∧ t = .int .i64 k ∧ Hid (J k wr)) (fun t _ => T.l.length - (intOf t).toNat)
  case atStart => exact ⟨0, by omega, rfl, h0⟩
  case round =>
    obtain ⟨k, hk, rfl, hj⟩ := hrel
    by_cases hlt : k < T.l.length
    · have hkr := HJk.out k wr hj.out
      have hBr := Lib.hid (HB.out.keeps hkr hS)
      have hTr := Lib.hid (HT.out.keeps hkr hF)
      clear hkr
      have HYK := Lib.hid (HR.out k (by rw [wholeL_len]; exact hlt))
      rw [wholeL_get] at HYK
      obtain ⟨chBr, zhBr⟩ := hBr.out.reads
      have lhBr := hBr.out.lt
      gi_wp2_with fail
      refine ⟨trivial, callsIn_wide.2 ((talk_line wr b T k hTr.out hlt).mono ?_)⟩
      rintro e W2 ⟨rfl, hW⟩
      clear chBr zhBr lhBr
      generalize hx : T.l[k] = x at *
      have HW := Lib.hid hW
      clear hW hx
      unfold Ln.v
      gi_wp2_with fail
      have e2 : Ext wr (W2.alloc (Obj.cells #[.int .i64 x.idx, .int .i64 x.slot, .int .i64 x.e.kind, .int .i64 x.e.member, .int .i64 x.e.number, .string (bs x.e.text)] 58)) := HW.out.alloc _
      obtain ⟨fn, tmps, assign, body, hy, hRd⟩ := HYK.out _ wr _ hj.out e2 rfl
      have HRd := Lib.hid hRd
      clear hRd e2
      unfold En.v at hy
      gi_wp2_with fail
      refine HRd.out.mono ?_
      rintro e W3 (⟨rfl, hJ3⟩ | ⟨rfl, hJx3⟩)
      · have HJ3 := Lib.hid hJ3
        clear hJ3
        gi_wp2_with fail
        go_roundw
        case rel => exact ⟨k + 1, by omega, by go_num, HJ3.out⟩
        case measure => simp [intOf]; omega
      · have HJ3 := Lib.hid hJx3
        clear hJx3
        gi_wp2_with fail
        rw [Exit.noGoto_normal]
        refine bodyPost_end (results_none rfl _ _ _) rfl ?_
        exact ⟨⟨_, rfl⟩, .inr ⟨k, hlt, HJ3.out⟩⟩
    · have HF : Hid (J T.l.length wr) := by
        obtain rfl : k = T.l.length := by omega
        exact hj
      gi_wp2_with fail
      rw [Exit.noGoto_normal]
      refine bodyPost_end (results_none rfl _ _ _) rfl ?_
      exact ⟨⟨_, rfl⟩, .inl HF.out⟩
end Go.Proofs.YthhdgjofagdjeaaDoor
