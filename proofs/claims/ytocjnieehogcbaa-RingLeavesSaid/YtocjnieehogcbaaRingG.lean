/- What All's closure hands on, what Len, Room and Clear tell. Conditions: the ring is laid out as 'RingAt' says. -/
import Derived.Test.YtocjnieehogcbaaRingF
set_option linter.unusedVariables false
set_option maxHeartbeats 400000
namespace Go.Proofs.Ytocjnieehogcbaa
open Go.RowKit
attribute [local go_sem] Oper.semAt_some

/-- a fresh copy of x -/
def Fresh (n0 : Nat) (x : It) (v : Array Value) (W0 W : World) : Prop := ∃ bv, v = #[.agg #[.bool x.side, .int .i64 x.key, bv]] ∧ Bytes W (fun k => W0.heap.size ≤ k ∧ k < W.heap.size) bv x.bytes ∧ Wr W bv ∧ n0 + 2 ≤ W0.heap.size

theorem wide_n (n : Nat) : Fence.wide.depth.isSome = true → 1 ≤ n := fun h => by simp [Fence.wide] at h

set_option maxHeartbeats 1000000 in
theorem iter_ring {A S : Nat → Prop} (w0 : World) (bx : Nat) (l : List It) (h : SeqAt w0 A bx l) (hS : ¬ S bx) (hA : ∀ k, A k → ¬ S k) (hx : ∀ x ∈ l, x.bytes.length ≤ 1000000) (hl : l.length ≤ 1000) :
    IterOK Fence.wide 8 Try.prog 41 #[.pointer (some ⟨bx, 0, none⟩)] l (Fresh w0.heap.size) S w0 := by
  intro ll J Jx W hll hJk hJs hJ hJx hround h0
  have hk0 := hJk 0 W h0
  obtain ⟨sv, hc0, hsl⟩ := h
  have hc := hk0.cell hS hc0
  obtain ⟨a, c, rfl⟩ : ∃ a c, sv = .slice a l.length c := by
    rcases hsl with ⟨a, rfl, rfl⟩ | ⟨b, o, c, rfl, _⟩
    · exact ⟨_, _, rfl⟩
    · exact ⟨_, _, rfl⟩
  have hbx := World.block_lt_of_cell? _ _ hc
  have HSL := Lib.hid hsl
  have HX := Lib.hid hx
  have HR := Lib.hid hround
  have HJk := Lib.hid hJk
  have HJs := Lib.hid hJs
  have HJ := Lib.hid hJ
  have HK0 := Lib.hid hk0
  clear hx hround hJk hJs hJ hsl hk0 hc0
  refine callsIn_of_wp Try.func41 rfl trivial ?_ rfl
  simp only [Try.ntmps41, List.size_toArray, List.length_cons, List.length_nil, Nat.reduceAdd, Nat.reduceSub, Array.replicate_succ, Array.replicate_zero, List.push_toArray, List.append_toArray, List.nil_append, List.cons_append]
  refine wpIn_scope ?_
  gi_wp2
  refine wpIn_label ?_
  gi_wp2_with fail
  gi_loopw [7] (fun t wr => ∃ k : Nat, k ≤ l.length ∧ t = .int .i64 k ∧ Hid (J k wr)) (fun t _ => l.length - (intOf t).toNat)
  case atStart => exact ⟨0, by omega, rfl, h0⟩
  case round =>
    obtain ⟨k, hk, rfl, hj⟩ := hrel
    by_cases hlt : k < l.length
    · have hkr := HJk.out k wr hj.out
      have hsl := SlV.mono HSL.out (At' := ItemAt wr A) (fun _ h => h) fun b o x ha hi => hi.keeps hkr (hA b ha) hA
      rcases hsl with ⟨_, _, h0'⟩ | ⟨b, o, c', hsv, hlc, hAb, hat⟩
      · exact absurd hlt (by rw [h0']; simp)
      · injection hsv with hsv1 hsv2 hsv3
        subst hsv1 hsv3
        obtain ⟨i1, i2, bv, i3, i4⟩ := hat k hlt
        obtain ⟨a2, c2, rfl⟩ := i4.len
        have hxk := HX.out _ (List.getElem_mem hlt)
        have HYK := Lib.hid (HR.out k hlt)
        generalize l[k] = x at *
        have hlw := World.block_lt_of_cell? _ _ i1
        have HI := Lib.hid i4
        have HKR := Lib.hid hkr
        have hl' : l.length ≤ c := hlc
        clear i4 hkr hat hlc
        gi_wp2_with fail
        refine ⟨trivial, callsIn_wide.2 ((told_w (A := A) _ x _ ⟨_, rfl, HI.out.ext ((Keeps.refl _ _).alloc _)⟩ hxk).mono ?_)⟩
        rintro e W2 ⟨v', bv', rfl, rfl, hb', hW, hwr⟩
        have hE2 := ((Keeps.refl NoB wr).alloc (Obj.cells #[Value.bool x.side, Value.int .i64 x.key, Value.slice a2 x.bytes.length c2] 31)).ext hW
        obtain ⟨fn, tmps, assign, body, hy, hRd⟩ := HYK.out _ wr W2 hj.out hE2 ⟨bv', rfl, hb'.mono (fun k hk => by have := hk.1; simp at this; exact ⟨by omega, hk.2⟩), hwr, by have := HJs.out k wr hj.out; omega⟩
        have HRd := Lib.hid hRd
        clear hRd hb' hW hwr hE2
        gi_wp2_with fail
        refine HRd.out.mono ?_
        rintro e W3 (⟨rfl, hJ3⟩ | ⟨rfl, hJx3⟩)
        · have HJ3 := Lib.hid hJ3
          clear hJ3
          gi_wp2_with fail
          go_roundw
          case rel => exact ⟨k + 1, by omega, by go_num, HJ3.out⟩
          case measure => simp [intOf]; omega
        · have HJ3 := Lib.hid hJx3
          clear hJx3
          gi_wp2_with fail
          rw [Exit.noGoto_normal]
          refine bodyPost_end (results_none rfl _ _ _) rfl ?_
          exact ⟨⟨_, rfl⟩, .inr ⟨k, hlt, HJ3.out⟩⟩
    · have HF : Hid (J l.length wr) := by
        obtain rfl : k = l.length := by omega
        exact hj
      gi_wp2_with fail
      rw [Exit.noGoto_normal]
      refine bodyPost_end (results_none rfl _ _ _) rfl ?_
      exact ⟨⟨_, rfl⟩, .inl HF.out⟩
end Go.Proofs.Ytocjnieehogcbaa
