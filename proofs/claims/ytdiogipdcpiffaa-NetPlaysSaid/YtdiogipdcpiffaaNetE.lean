/- The net's own functions, each by its contract: All and its iterator, Came, Len. Conditions: the net lies as 'NetX' says. -/
import Derived.Test.YtdiogipdcpiffaaNetD
import Derived.Test.YtdiogipdcpiffaaBrk
import Derived.BigFrameIn
import Derived.BigGuardIn
set_option linter.unusedVariables false
set_option maxHeartbeats 400000
set_option maxRecDepth 10000
namespace Go.Proofs.Ytdiogipdcpiffaa
open Go.RowKit
attribute [local go_sem] Oper.semAt_some

def SeqN (w : World) (A : Nat → Prop) (bx : Nat) (l : List Pc) : Prop := ∃ sv, w.cell? ⟨bx, 0, none⟩ = some sv ∧ ParsV w A sv l
section
variable {w w' : World} {A S : Nat → Prop} {bx : Nat} {l : List Pc}
theorem SeqN.keeps (h : SeqN w A bx l) (hk : Keeps S w w') (hb : ¬ S bx) (hA : ∀ k, A k → ¬ S k) : SeqN w' A bx l :=
  let ⟨sv, h1, h2⟩ := h
  ⟨sv, hk.cell hb h1, h2.keeps hk hA⟩
theorem SeqN.ext (h : SeqN w A bx l) (hk : Ext w w') : SeqN w' A bx l := h.keeps hk (noB _) fun _ _ => noB _
theorem SeqN.lt (h : SeqN w A bx l) : bx < w.heap.size := let ⟨_, h1, _⟩ := h; World.block_lt_of_cell? _ _ h1
end
def Fresh (n0 : Nat) (p : Pc) (v : Array Value) (W0 W : World) : Prop := ∃ bv, v = #[.agg #[.int .i64 (p.num : Int), .int .i64 p.src, .int .i64 p.dst, bv]] ∧ Bytes W (Fr W0 W) bv p.bytes ∧ WrN W bv ∧ n0 + 2 ≤ W0.heap.size

theorem all_net {F M : Nat → Prop} (w : World) (b : Nat) (N : NA) (h : NetX w F M b N) :
    Calls Try.prog 17 #[.pointer (some ⟨b, 0, none⟩)] w fun e w' =>
      e = .returned (.func (.func 45) #[] #[.pointer (some ⟨w.heap.size, 0, none⟩)]) ∧ SeqN w' (fun k => k < w'.heap.size ∧ ¬ M k ∧ k ≠ w.heap.size) w.heap.size N.l ∧ Ext w w' := by
  have HN := Lib.hid h
  obtain ⟨A, m, v, cs, h⟩ := h
  have HB := Lib.hid h.box
  have HV := Lib.hid h.win
  have HR := Lib.hid h.row
  have HA := Lib.hid h.fa
  have HM := Lib.hid h.lt
  have hll : N.l.length ≤ 4096 := by have := h.ll; have := h.m1; omega
  clear h
  go_enter Try.func17, Try.ntmps17
  go_wp2_with fail
  have bx0 := (Box.new w 69 [.slice none 0 0])
  have ex : Ext w (w.alloc (Obj.cells #[.slice none 0 0] 69)) := ((Keeps.refl NoB w).alloc _)
  have sx : (w.alloc (Obj.cells #[.slice none 0 0] 69)).heap.size = w.heap.size + 1 := by simp
  generalize (w.alloc (Obj.cells #[.slice none 0 0] 69)) = w0 at bx0 ex sx ⊢
  have Sx := Lib.hid sx
  clear sx
  have B0 := Lib.hid bx0
  have HE := Lib.hid ex
  have h0 := ex.size
  have h0' := bx0.lt
  replace HN := Lib.hid (HN.out.ext ex)
  replace HB := Lib.hid (HB.out.ext ex)
  replace HV := Lib.hid (HV.out.ext ex)
  replace HR := Lib.hid (HR.out.mono fun c p hc => hc.keeps ex (fun _ _ => noB _))
  clear ex bx0
  refine (none_net w0 b N HN.out).mono ?_
  rintro e w' ⟨rfl, rfl⟩
  obtain ⟨cHB, zHB⟩ := HB.out.reads
  have lHB := HB.out.lt
  go_wp2_with fail
  refine (clone_ways w0 _ cs N.l HV.out HR.out hll (fun k hk => by have := (HA.out k hk).1; omega)).mono ?_
  rintro e w1 ⟨v', cs', rfl, hwin, hrow, hE⟩
  obtain ⟨a1, c1, rfl⟩ := hwin.len
  have HW := Lib.hid hwin
  have HR1 := Lib.hid hrow
  have h1 := hE.size
  replace HE := Lib.hid (HE.out.ext hE)
  replace B0 := Lib.hid (B0.out.ext hE)
  have HE1 := Lib.hid hE
  clear hE hwin hrow
  clear cHB zHB lHB
  obtain ⟨cB0, zB0⟩ := B0.out.reads
  have lB0 := B0.out.lt
  go_wp2_with fail
  have hk : Keeps (OneB w.heap.size) w1 (w1.setCell ⟨w.heap.size, 0, none⟩ (.slice a1 N.l.length c1)) := (Keeps.refl _ _).setOne _ _
  have q := B0.out.set 0 (.slice a1 N.l.length c1)
  have hw2 := HW.out.keeps hk (fun g hg h => by have := (HW.out.block g hg).1; unfold OneB at h; omega)
  have hr2 := HR1.out.mono fun c p (hc : ParEn w1 A c p) => hc.keeps hk (fun k hk h => by have := HA.out k hk; unfold OneB at h; omega)
  clear cB0 zB0 lB0
  go_ret
  refine ⟨rfl, ⟨_, by rw [q.reads.1]; rfl, ?_⟩, HE.out.then hk (fun i hi h => by unfold OneB at h; omega)⟩
  refine ParsV.of_win hw2 rfl hr2 (fun k hk' => ?_) (fun k hk1 hk2 => ?_)
  · have h2 := HA.out k hk'
    have h3 := hk.size
    exact ⟨by omega, h2.2, by omega⟩
  · exact ⟨hk2, fun hm => by have := HM.out k hm; omega, by omega⟩

set_option maxHeartbeats 1000000 in
theorem iter_net {A S : Nat → Prop} (w0 : World) (bx : Nat) (l : List Pc) (h : SeqN w0 A bx l) (hS : ¬ S bx) (hA : ∀ k, A k → ¬ S k) (hx : ∀ x ∈ l, x.bytes.length ≤ 8192) (hl : l.length ≤ 4096) :
    IterOK Fence.wide 8 Try.prog 45 #[.pointer (some ⟨bx, 0, none⟩)] l (Fresh w0.heap.size) S w0 := by
  intro ll J Jx W hll hJk hJs hJ hJx hround h0
  have hk0 := hJk 0 W h0
  obtain ⟨sv, hc0, hsl⟩ := h
  have hc := hk0.cell hS hc0
  obtain ⟨a, c, rfl⟩ := hsl.len
  have hbx := World.block_lt_of_cell? _ _ hc
  have HSL := Lib.hid hsl
  have HX := Lib.hid hx
  have HR := Lib.hid hround
  have HJk := Lib.hid hJk
  have HJs := Lib.hid hJs
  have HJ := Lib.hid hJ
  have HK0 := Lib.hid hk0
  clear hx hround hJk hJs hJ hsl hk0 hc0
  refine callsIn_of_wp Try.func45 rfl trivial ?_ rfl
  simp only [Try.ntmps45, List.size_toArray, List.length_cons, List.length_nil, Nat.reduceAdd, Nat.reduceSub, Array.replicate_succ, Array.replicate_zero, List.push_toArray, List.append_toArray, List.nil_append, List.cons_append]
  refine wpIn_scope ?_
  gi_wp2
  refine wpIn_label ?_
  gi_wp2_with fail
  gi_loopw [7] (fun t wr => ∃ k : Nat, k ≤ l.length ∧ t = .int .i64 k ∧ Hid (J k wr)) (fun t _ => l.length - (intOf t).toNat)
  case atStart => exact ⟨0, by omega, rfl, h0⟩
  case round =>
    obtain ⟨k, hk, rfl, hj⟩ := hrel
    by_cases hlt : k < l.length
    · have hkr := HJk.out k wr hj.out
      have hsl := HSL.out.keeps hkr hA
      obtain ⟨-, hat⟩ := hsl.at
      obtain ⟨b, o, rfl, hlc, hAb, hpar⟩ := hat k hlt
      have hxk := HX.out _ (List.getElem_mem hlt)
      have HYK := Lib.hid (HR.out k hlt)
      generalize l[k] = x at *
      obtain ⟨i0, i1, i2, a3, n3, i3, i4⟩ := hpar.reads
      have hlw := World.block_lt_of_cell? _ _ i0
      have HI := Lib.hid i4
      have HKR := Lib.hid hkr
      clear i4 hkr hat hsl hpar
      gi_wp2_with fail
      have e1 : Ext wr (wr.alloc (Obj.cells #[.int .i64 (x.num : Int), .int .i64 x.src, .int .i64 x.dst, .slice a3 x.bytes.length n3] 81)) := (Keeps.refl _ _).alloc _
      refine ⟨trivial, callsIn_wide.2 ((told_any (A := A) _ _ x ⟨_, rfl, HI.out.ext e1⟩ (by omega)).mono ?_)⟩
      rintro e W2 ⟨v', rfl, ⟨bv', rfl, hb', hwr⟩, hW⟩
      have hE2 := e1.ext hW
      have h1s := e1.size
      obtain ⟨fn, tmps, assign, body, hy, hRd⟩ := HYK.out _ wr W2 hj.out hE2 ⟨bv', rfl, hb'.mono (fun k hk => ⟨by have := hk.1; omega, hk.2⟩), hwr, by have := HJs.out k wr hj.out; omega⟩
      have HRd := Lib.hid hRd
      clear hRd hb' hW hwr hE2 e1
      gi_wp2_with fail
      refine HRd.out.mono ?_
      rintro e W3 (⟨rfl, hJ3⟩ | ⟨rfl, hJx3⟩)
      · have HJ3 := Lib.hid hJ3
        clear hJ3
        gi_wp2_with fail
        go_roundw
        case rel => exact ⟨k + 1, by omega, by go_num, HJ3.out⟩
        case measure => simp [intOf]; omega
      · have HJ3 := Lib.hid hJx3
        clear hJx3
        gi_wp2_with fail
        rw [Exit.noGoto_normal]
        refine bodyPost_end (results_none rfl _ _ _) rfl ?_
        exact ⟨⟨_, rfl⟩, .inr ⟨k, hlt, HJ3.out⟩⟩
    · have HF : Hid (J l.length wr) := by
        obtain rfl : k = l.length := by omega
        exact hj
      gi_wp2_with fail
      rw [Exit.noGoto_normal]
      refine bodyPost_end (results_none rfl _ _ _) rfl ?_
      exact ⟨⟨_, rfl⟩, .inl HF.out⟩
theorem came_any {F M : Nat → Prop} (w : World) (b : Nat) (N : NA) (h : NetX w F M b N) :
    Calls Try.prog 25 #[.pointer (some ⟨b, 0, none⟩)] w fun e w' => e = .returned (.int .i64 (N.came : Int)) ∧ w = w' := by
  obtain ⟨A, m, a, c, hb, -, hs, -⟩ := h.see
  have HB := Lib.hid hb
  have HN := Lib.hid h
  clear h hb hs
  go_enter Try.func25, Try.ntmps25
  go_wp2_with fail
  refine (none_net w b N HN.out).mono ?_
  rintro e w' ⟨rfl, rfl⟩
  obtain ⟨cHB, zHB⟩ := HB.out.reads
  have lHB := HB.out.lt
  go_wp2_with fail
  go_ret
  exact ⟨rfl, rfl⟩
end Go.Proofs.Ytdiogipdcpiffaa
