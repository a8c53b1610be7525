/- The helpers of the ring's statements: items of strings, error numbers. -/
import Derived.Test.YtocjnieehogcbaaRingH
import Derived.Test.YtocjnieehogcbaaStr
set_option linter.unusedVariables false
set_option maxHeartbeats 400000
namespace Go.Proofs.Ytocjnieehogcbaa
open Go.RowKit

theorem num_any (n : Int) (w : World) :
    Calls Try.prog 12 #[.int .i64 n] w fun e w' => e = .returned (.int .i64 n) ∧ w = w' := by
  go_enter Try.func12, Try.ntmps12
  go_wp2
  go_ret
  exact ⟨rfl, rfl⟩

theorem main_any  (l : List UInt8) (w : World) :
    Calls Try.prog 11 #[.string (bs l)] w fun e w' => ∃ v', e = .returned v' ∧ ItemV w' (fun k => w.heap.size ≤ k ∧ k < w'.heap.size) v' ⟨false, 0, l⟩ ∧ Ext w w' := by
  obtain ⟨v', w1, hr, hb, he, hs⟩ := conv_bytes (w.alloc (Obj.cells #[Value.bool false, Value.int IntKind.i64 0, Value.slice none 0 0] 31)) l
  have b0 := (Box.new w 31 [Value.bool false, Value.int IntKind.i64 0, Value.slice none 0 0]).ext he
  obtain ⟨c0, f0⟩ := b0.reads
  have l0 := b0.lt
  obtain ⟨a, c, rfl⟩ := hb.len
  have HB := Lib.hid hb
  have HE := Lib.hid he
  have HB0 := Lib.hid b0
  have HS := Lib.hid hs
  clear hb he b0 hs
  go_enter Try.func11, Try.ntmps11
  go_wp2_with fail
  have q0 := (((HB0.out.set 0 (.bool (It.side ⟨false, 0, l⟩))).set 1 (.int .i64 (It.key ⟨false, 0, l⟩))).set 2 (.slice a l.length c)).reads.1
  dsimp only [List.set_cons_zero, List.set_cons_succ] at q0
  have hsz := HS.out
  simp only [World.size_alloc] at hsz
  refine bodyPost_ret (v := .agg #[.bool (It.side ⟨false, 0, l⟩), .int .i64 (It.key ⟨false, 0, l⟩), .slice a l.length c]) (by simp [results, Try.results11, go_sem, q0]) rfl ⟨_, rfl, ⟨_, rfl, ?_⟩, ?_⟩
  · have hk : Keeps (OneB w.heap.size) w1 (((w1.setCell ⟨w.heap.size, 0, none⟩ (.bool (It.side ⟨false, 0, l⟩))).setCell ⟨w.heap.size, 1, none⟩ (.int .i64 (It.key ⟨false, 0, l⟩))).setCell ⟨w.heap.size, 2, none⟩ (.slice a l.length c)) :=
      (((Keeps.refl _ _).setOne _ _).setOne _ _).setOne _ _
    refine (HB.out.keeps hk (by intro k hk1 hk2; unfold OneB at hk2; simp at hk1; omega)).mono ?_
    intro k hk
    have := hk.1
    have := hk.2
    simp at *
    omega
  · have := ((Keeps.refl NoB w).alloc (Obj.cells #[Value.bool false, Value.int IntKind.i64 0, Value.slice none 0 0] 31)).ext HE.out
    repeat (first | exact this | refine Keeps.setNew ?_ _ _ (Nat.le_refl _))
theorem beside_any (k : Int) (l : List UInt8) (w : World) :
    Calls Try.prog 27 #[.int .i64 k, .string (bs l)] w fun e w' => ∃ v', e = .returned v' ∧ ItemV w' (fun k => w.heap.size ≤ k ∧ k < w'.heap.size) v' ⟨true, k, l⟩ ∧ Ext w w' := by
  obtain ⟨v', w1, hr, hb, he, hs⟩ := conv_bytes (w.alloc (Obj.cells #[Value.bool false, Value.int IntKind.i64 0, Value.slice none 0 0] 31)) l
  have b0 := (Box.new w 31 [Value.bool false, Value.int IntKind.i64 0, Value.slice none 0 0]).ext he
  obtain ⟨c0, f0⟩ := b0.reads
  have l0 := b0.lt
  obtain ⟨a, c, rfl⟩ := hb.len
  have HB := Lib.hid hb
  have HE := Lib.hid he
  have HB0 := Lib.hid b0
  have HS := Lib.hid hs
  clear hb he b0 hs
  go_enter Try.func27, Try.ntmps27
  go_wp2_with fail
  have q0 := (((HB0.out.set 0 (.bool (It.side ⟨true, k, l⟩))).set 1 (.int .i64 (It.key ⟨true, k, l⟩))).set 2 (.slice a l.length c)).reads.1
  dsimp only [List.set_cons_zero, List.set_cons_succ] at q0
  have hsz := HS.out
  simp only [World.size_alloc] at hsz
  refine bodyPost_ret (v := .agg #[.bool (It.side ⟨true, k, l⟩), .int .i64 (It.key ⟨true, k, l⟩), .slice a l.length c]) (by simp [results, Try.results27, go_sem, q0]) rfl ⟨_, rfl, ⟨_, rfl, ?_⟩, ?_⟩
  · have hk : Keeps (OneB w.heap.size) w1 (((w1.setCell ⟨w.heap.size, 0, none⟩ (.bool (It.side ⟨true, k, l⟩))).setCell ⟨w.heap.size, 1, none⟩ (.int .i64 (It.key ⟨true, k, l⟩))).setCell ⟨w.heap.size, 2, none⟩ (.slice a l.length c)) :=
      (((Keeps.refl _ _).setOne _ _).setOne _ _).setOne _ _
    refine (HB.out.keeps hk (by intro k hk1 hk2; unfold OneB at hk2; simp at hk1; omega)).mono ?_
    intro k hk
    have := hk.1
    have := hk.2
    simp at *
    omega
  · have := ((Keeps.refl NoB w).alloc (Obj.cells #[Value.bool false, Value.int IntKind.i64 0, Value.slice none 0 0] 31)).ext HE.out
    repeat (first | exact this | refine Keeps.setNew ?_ _ _ (Nat.le_refl _))

/-! ### a ring, its memory's blocks left open: none of them is of N -/
def RingX (w : World) (N : Nat → Prop) (b : Nat) (R : AR) : Prop := ∃ f A, RingAt w A b f R ∧ ¬ A b ∧ ∀ k, A k → k < w.heap.size ∧ ¬ N k
theorem RingX.keeps {w w' : World} {N S : Nat → Prop} {b : Nat} {R : AR} (h : RingX w N b R) (hk : Keeps S w w') (hs : ∀ k, S k → N k) (hb : ¬ S b) : RingX w' N b R :=
  let ⟨f, A, h1, h2, h3⟩ := h
  ⟨f, A, h1.keeps hk hb fun k ha hS => (h3 k ha).2 (hs k hS), h2, fun k ha => ⟨Nat.lt_of_lt_of_le (h3 k ha).1 hk.size, (h3 k ha).2⟩⟩
theorem RingX.ext {w w' : World} {N : Nat → Prop} {b : Nat} {R : AR} (h : RingX w N b R) (hk : Ext w w') : RingX w' N b R := h.keeps hk (fun _ h => (noB _ h).elim) (noB _)
theorem RingX.lt {w : World} {N : Nat → Prop} {b : Nat} {R : AR} (h : RingX w N b R) : b < w.heap.size := let ⟨_, _, h1, _⟩ := h; h1.lt
theorem RingX.le {w : World} {N : Nat → Prop} {b : Nat} {R : AR} (h : RingX w N b R) : R.items.length ≤ R.most ∧ 1 ≤ R.most ∧ R.most ≤ 64 := let ⟨_, _, h1, _⟩ := h; ⟨h1.hl, by have := h1.hf; omega, h1.hm⟩

theorem new_x (N : Nat → Prop) (w : World) (m : Nat) (h1 : 1 ≤ m) (h2 : m ≤ 64) (hN : ∀ k, N k → k < w.heap.size) (z : Int) (hz : z = m) :
    Calls Try.prog 9 #[.int .i64 z] w fun e w' =>
      ∃ b, e = .returned (.tuple #[.pointer (some ⟨b, 0, none⟩), .int .i64 0]) ∧ RingX w' N b ⟨m, 0, []⟩ ∧ Ext w w' ∧ w.heap.size ≤ b := by
  subst hz
  exact (new_yes w m h1 h2).mono fun e w' ⟨h1, h2, h3⟩ => ⟨_, h1, ⟨0, _, h2, fun h => h, fun _ h => h.elim⟩, h3, Nat.le_refl _⟩
theorem put_x {N B : Nat → Prop} (w : World) (b : Nat) (R R' : AR) (x : It) (v : Value) (n m : Nat) (zn zm : Int) (hp : R.put x = (R', n, m)) (hzn : zn = n) (hzm : zm = m) (h : RingX w N b R) (hv : ItemV w B v x) (hB : ¬ B b)
    (hN : ∀ k, N k → k < w.heap.size) (hx : x.bytes.length ≤ 1000000) (hlost : R.lost ≤ 1000000) :
    Calls Try.prog 10 #[.pointer (some ⟨b, 0, none⟩), v] w fun e w' => e = .returned (.tuple #[.int .i64 zn, .int .i64 zm]) ∧ RingX w' N b R' ∧ Keeps (OneB b) w w' := by
  obtain ⟨f, A, h1, h2, h3⟩ := h
  subst hzn hzm
  refine (put_ring w b f R x v h1 h2 hv hB hx hlost).mono fun e w' ⟨e1, e2, e3⟩ => ?_
  rw [hp] at e1 e2
  refine ⟨e1, ⟨f, _, e2, ?_, ?_⟩, e3⟩
  · rintro (hk | hk)
    · exact h2 hk
    · have := h1.lt; omega
  · rintro k (hk | hk)
    · exact ⟨Nat.lt_of_lt_of_le (h3 k hk).1 e3.size, (h3 k hk).2⟩
    · exact ⟨hk.2, fun hn => by have := hN k hn; omega⟩
theorem take_x {N : Nat → Prop} (w : World) (b m l : Nat) (x : It) (r : List It) (h : RingX w N b ⟨m, l, x :: r⟩) :
    Calls Try.prog 16 #[.pointer (some ⟨b, 0, none⟩)] w fun e w' =>
      ∃ v, e = .returned (.tuple #[v, .bool true]) ∧ ItemV w' (fun k => k < w.heap.size ∧ k ≠ b ∧ ¬ N k) v x ∧ RingX w' N b ⟨m, l, r⟩ ∧ Keeps (OneB b) w w' := by
  obtain ⟨f, A, h1, h2, h3⟩ := h
  refine (take_ring w b f m l x r h1 h2 fun k hk => (h3 k hk).1).mono fun e w' ⟨v, e1, e2, e3, e4⟩ => ⟨v, e1, e2.mono fun k hk => ⟨(h3 k hk).1, fun e => h2 (e ▸ hk), (h3 k hk).2⟩, ⟨_, A, e3, h2, fun k hk => ⟨Nat.lt_of_lt_of_le (h3 k hk).1 e4.size, (h3 k hk).2⟩⟩, e4⟩
theorem take_x0 {N : Nat → Prop} (w : World) (b m l : Nat) (h : RingX w N b ⟨m, l, []⟩) :
    Calls Try.prog 16 #[.pointer (some ⟨b, 0, none⟩)] w fun e w' => e = .returned (.tuple #[.agg #[.bool false, .int .i64 0, .slice none 0 0], .bool false]) ∧ Ext w w' := by
  obtain ⟨f, A, h1, h2, h3⟩ := h
  exact take_empty w b f m l h1
theorem clear_x {N : Nat → Prop} (w : World) (b m l : Nat) (its : List It) (h : RingX w N b ⟨m, l, its⟩) :
    Calls Try.prog 13 #[.pointer (some ⟨b, 0, none⟩)] w fun e w' =>
      e = .returned (.int .i64 (its.length : Nat)) ∧ RingX w' N b ⟨m, l, []⟩ ∧ Keeps (OneB b) w w' := by
  obtain ⟨f, A, h1, h2, h3⟩ := h
  exact (clear_ring w b f m l its h1 h2 fun k hk => (h3 k hk).1).mono fun e w' ⟨e1, ⟨f', e2⟩, e3⟩ => ⟨e1, ⟨f', A, e2, h2, fun k hk => ⟨Nat.lt_of_lt_of_le (h3 k hk).1 e3.size, (h3 k hk).2⟩⟩, e3⟩
theorem len_x {N : Nat → Prop} (w : World) (b : Nat) (R : AR) (h : RingX w N b R) (hx : ∀ x ∈ R.items, x.bytes.length ≤ 1000000) :
    Calls Try.prog 14 #[.pointer (some ⟨b, 0, none⟩)] w (LenPost w R.items) := by
  obtain ⟨f, A, h1, h2, h3⟩ := h
  exact len_ring w b f R h1 hx
theorem room_x {N : Nat → Prop} (w : World) (b : Nat) (R : AR) (h : RingX w N b R) (hx : ∀ x ∈ R.items, x.bytes.length ≤ 1000000) :
    Calls Try.prog 17 #[.pointer (some ⟨b, 0, none⟩)] w fun e w' => e = .returned (.int .i64 ((R.most : Int) - (mains R.items : Nat))) ∧ Ext w w' := by
  obtain ⟨f, A, h1, h2, h3⟩ := h
  exact room_ring w b f R h1 hx
end Go.Proofs.Ytocjnieehogcbaa
