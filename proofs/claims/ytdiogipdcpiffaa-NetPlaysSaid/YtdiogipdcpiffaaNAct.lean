/- The document's net beside a net: its calls, each told whole. Conditions: it lies as 'RefX' says. -/
import Derived.Test.YtdiogipdcpiffaaNRefG
set_option linter.unusedVariables false
set_option maxHeartbeats 400000
set_option maxRecDepth 10000
namespace Go.Proofs.Ytdiogipdcpiffaa
open Go.RowKit

/-- the document's net, in blocks of the call's world, none of M -/
def RefX (w : World) (M : Nat → Prop) (v : Value) (N : NA) : Prop := ∃ A, RefV w A v N ∧ ∀ k, A k → k < w.heap.size ∧ ¬ M k
section
variable {w w' : World} {S M M' : Nat → Prop} {v : Value} {N : NA}
theorem RefX.go (h : RefX w M v N) (hk : Keeps S w w') (hs : ∀ k, k < w.heap.size → S k → M k) (hM : ∀ k, M' k → M k ∨ w.heap.size ≤ k) : RefX w' M' v N :=
  let ⟨A, h1, h2⟩ := h
  ⟨A, h1.keeps hk fun k ha hS => (h2 k ha).2 (hs k (h2 k ha).1 hS), fun k ha => ⟨Nat.lt_of_lt_of_le (h2 k ha).1 hk.size, fun hm => by
    rcases hM k hm with h | h
    · exact (h2 k ha).2 h
    · have := (h2 k ha).1; omega⟩⟩
theorem RefX.ext (h : RefX w M v N) (hk : Ext w w') : RefX w' M v N := h.go hk (fun _ _ h => (noB _ h).elim) fun _ h => .inl h
theorem RefX.more (h : RefX w M v N) (hk : Ext w w') (hM : ∀ k, M' k → M k ∨ w.heap.size ≤ k) : RefX w' M' v N := h.go hk (fun _ _ h => (noB _ h).elim) hM
theorem RefX.less (h : RefX w M v N) (hM : ∀ k, M' k → M k) : RefX w M' v N := h.go (Keeps.refl NoB w) (fun _ _ h => (noB _ h).elim) fun k h => .inl (hM k h)
theorem RefX.put {A : Nat → Prop} (h : RefV w' (Gr A w w') v N) (hA : ∀ k, A k → k < w.heap.size ∧ ¬ M k) (hM : ∀ k, M k → k < w.heap.size) (hs : Ext w w') : RefX w' M v N :=
  ⟨_, h, fun k hk => by
    have := hs.size
    rcases hk with hk | hk
    · exact ⟨Nat.lt_of_lt_of_le (hA k hk).1 this, (hA k hk).2⟩
    · exact ⟨hk.2, fun hm => by have := hM k hm; have := hk.1; omega⟩⟩
theorem RefX.len (h : RefX w M v N) : ∃ a c a' c', v = .agg #[.int .i64 (N.ends : Int), .int .i64 (N.most : Int), .int .i64 (N.came : Int), .slice a N.l.length c, .slice a' N.downs.length c'] := by
  obtain ⟨A, h1, -⟩ := h
  obtain ⟨a, c, a', c', h2, -, -⟩ := h1.args
  exact ⟨a, c, a', c', h2⟩
end
/-- the bounds of a net behind at most k calls -/
structure NB (N : NA) (k : Nat) : Prop where
  e : N.ends ≤ 64
  m : N.most ≤ 4096
  l : N.l.length ≤ 4096
  d : N.downs.length ≤ k
  c : N.came ≤ k
theorem NB.mono {N : NA} {k j : Nat} (h : NB N k) (hj : k ≤ j) : NB N j := ⟨h.e, h.m, h.l, Nat.le_trans h.d hj, Nat.le_trans h.c hj⟩
theorem NB.put {N : NA} {k : Nat} (h : NB N k) (f t : Int) (l : List UInt8) : NB (N.putR f t l).1 (k + 1) := by
  unfold NA.putR
  split
  · rename_i h0
    have h1 : N.l.length < N.most := by
      unfold NA.putErr at h0
      split at h0; · cases h0
      split at h0; · cases h0
      split at h0; · cases h0
      split at h0; · cases h0
      omega
    have := h.m
    exact ⟨h.e, h.m, by show (N.l ++ [_]).length ≤ _; simp; omega, by show N.downs.length ≤ _; have := h.d; omega, by show N.came + 1 ≤ _; have := h.c; omega⟩
  · exact h.mono (by omega)
theorem NB.without {N : NA} {k : Nat} (h : NB N k) (i : Nat) : NB (N.without i) (k + 1) := by
  refine ⟨h.e, h.m, ?_, by show N.downs.length ≤ _; have := h.d; omega, by show N.came ≤ _; have := h.c; omega⟩
  have := h.l
  show (N.l.take i ++ N.l.drop (i + 1)).length ≤ _
  simp; omega
theorem NB.take {N : NA} {k : Nat} (h : NB N k) (f t p : Int) : NB (N.takeR f t p).1 (k + 1) := by
  unfold NA.takeR
  split
  · exact h.without _
  · exact h.mono (by omega)
theorem NB.drop {N : NA} {k : Nat} (h : NB N k) (f t p : Int) : NB (N.dropR f t p).1 (k + 1) := by
  unfold NA.dropR
  split
  · exact h.without _
  · exact h.mono (by omega)
theorem NB.down {N : NA} {k : Nat} (h : NB N k) (f t : Int) (is : Bool) : NB (N.downR f t is).1 (k + 1) := by
  unfold NA.downR
  split
  · refine ⟨h.e, h.m, h.l, ?_, by show N.came ≤ _; have := h.c; omega⟩
    have := h.d
    have h1 := List.length_filter_le (fun p : Int × Int => decide (p ≠ (f, t))) N.downs
    show (N.downs.filter _ ++ _).length ≤ _
    rw [List.length_append]
    generalize (N.downs.filter fun p : Int × Int => decide (p ≠ (f, t))).length = n1 at h1 ⊢
    have h2 : (if is = true then [(f, t)] else []).length ≤ 1 := by cases is <;> simp
    omega
  · exact h.mono (by omega)
section
variable {M B : Nat → Prop} {k : Nat}
theorem rputX (w : World) (v bv : Value) (N : NA) (f t : Int) (bl : List UInt8) (h : RefX w M v N) (hM : ∀ k, M k → k < w.heap.size) (hb : Bytes w B bv bl) (hB : NB N k) (hk : k ≤ 1000) (hbl : bl.length ≤ 9223372036854775807)
    (N' : NA) (j e : Nat) (zj ze : Int) (hr : N.putR f t bl = (N', j, e)) (hzj : zj = j) (hze : ze = e) :
    Calls Try.prog 47 #[v, .int .i64 f, .int .i64 t, bv] w fun r w' => ∃ v', r = .returned (.tuple #[v', .int .i64 zj, .int .i64 ze]) ∧ RefX w' M v' N' ∧ Ext w w' := by
  subst hzj hze
  obtain ⟨A, hA, hA2⟩ := h
  have hd := hB.d
  have hc := hB.c
  unfold NA.putR at hr
  by_cases h0 : N.putErr f t bl.length = 0
  · rw [if_pos h0] at hr
    injection hr with h1 h2; injection h2 with h2 h3; subst h1 h2 h3
    exact (rput_ok w v bv N f t bl hA hb hB.e hB.l hB.m (by omega) (by omega) (fun k hk => (hA2 k hk).1) h0).mono fun r w' ⟨v', h1, h2, h3⟩ => ⟨v', h1, RefX.put h2 hA2 hM h3, h3⟩
  · rw [if_neg h0] at hr
    injection hr with h1 h2; injection h2 with h2 h3; subst h1 h2 h3
    exact (rput_err w v bv N f t bl hA hb hB.e hB.l hB.m (by omega) hbl (fun k hk => (hA2 k hk).1) _ rfl h0).mono fun r w' ⟨h1, h2⟩ => ⟨v, h1, RefX.ext ⟨A, hA, hA2⟩ h2, h2⟩
theorem rpeekX (w : World) (v : Value) (N : NA) (f t p : Int) (h : RefX w M v N) (hp : I64 p) (hB : NB N k) (hk : k ≤ 1000) (x : Pc) (e : Nat) (ze : Int) (hr : N.peekR f t p = (x, e)) (hze : ze = e) :
    Calls Try.prog 48 #[v, .int .i64 f, .int .i64 t, .int .i64 p] w fun r w' => ∃ vx, r = .returned (.tuple #[vx, .int .i64 ze]) ∧ ParV w' (fun k => k < w.heap.size ∧ ¬ M k) vx x ∧ Ext w w' := by
  subst hze
  obtain ⟨A, hA, hA2⟩ := h
  have hd := hB.d
  unfold NA.peekR at hr
  by_cases h0 : N.peekErr f t p = 0
  · rw [if_pos h0] at hr
    injection hr with h1 h2; subst h1 h2
    exact (rpeek_yes w v N f t p hA hB.e hB.l (by omega) (fun k hk => (hA2 k hk).1) hp h0).2.mono fun r w' ⟨vx, h1, h2, h3⟩ => ⟨vx, h1, h2.mono hA2, h3⟩
  · rw [if_neg h0] at hr
    injection hr with h1 h2; subst h1 h2
    exact (rpeek_no w v N f t p hA hB.e hB.l (by omega) (fun k hk => (hA2 k hk).1) hp _ rfl h0).mono fun r w' ⟨h1, h2⟩ => ⟨_, h1, zeroP_par _ _, h2⟩
theorem rtakeX (w : World) (v : Value) (N : NA) (f t p : Int) (h : RefX w M v N) (hM : ∀ k, M k → k < w.heap.size) (hp : I64 p) (hB : NB N k) (hk : k ≤ 1000) (N' : NA) (x : Pc) (e : Nat) (ze : Int) (hr : N.takeR f t p = (N', x, e)) (hze : ze = e) :
    Calls Try.prog 49 #[v, .int .i64 f, .int .i64 t, .int .i64 p] w fun r w' => ∃ v' vx, r = .returned (.tuple #[v', vx, .int .i64 ze]) ∧ RefX w' M v' N' ∧ ParV w' (fun k => k < w.heap.size ∧ ¬ M k) vx x ∧ Ext w w' := by
  subst hze
  obtain ⟨A, hA, hA2⟩ := h
  have hd := hB.d
  unfold NA.takeR at hr
  by_cases h0 : N.peekErr f t p = 0
  · rw [if_pos h0] at hr
    injection hr with h1 h2; injection h2 with h2 h3; subst h1 h2 h3
    exact (rtake_ok w v N f t p hA hB.e hB.l (by omega) (fun k hk => (hA2 k hk).1) hp h0).mono fun r w' ⟨v', vx, h1, h2, h3, h4⟩ => ⟨v', vx, h1, RefX.put h2 hA2 hM h4, h3.mono hA2, h4⟩
  · rw [if_neg h0] at hr
    injection hr with h1 h2; injection h2 with h2 h3; subst h1 h2 h3
    exact (rtake_err w v N f t p hA hB.e hB.l (by omega) (fun k hk => (hA2 k hk).1) hp _ rfl h0).mono fun r w' ⟨h1, h2⟩ => ⟨_, _, h1, RefX.ext ⟨A, hA, hA2⟩ h2, zeroP_par _ _, h2⟩
theorem rdropX (w : World) (v : Value) (N : NA) (f t p : Int) (h : RefX w M v N) (hM : ∀ k, M k → k < w.heap.size) (hp : I64 p) (hB : NB N k) (hk : k ≤ 1000) (N' : NA) (j e : Nat) (zj ze : Int) (hr : N.dropR f t p = (N', j, e)) (hzj : zj = j) (hze : ze = e) :
    Calls Try.prog 50 #[v, .int .i64 f, .int .i64 t, .int .i64 p] w fun r w' => ∃ v', r = .returned (.tuple #[v', .int .i64 zj, .int .i64 ze]) ∧ RefX w' M v' N' ∧ Ext w w' := by
  subst hzj hze
  obtain ⟨A, hA, hA2⟩ := h
  have hd := hB.d
  unfold NA.dropR at hr
  by_cases h0 : N.pickErr f t = 0
  · rw [if_pos h0] at hr
    injection hr with h1 h2; injection h2 with h2 h3; subst h1 h2 h3
    exact (rdrop_ok w v N f t p hA hB.e hB.l (fun k hk => (hA2 k hk).1) hp h0).mono fun r w' ⟨v', h1, h2, h4⟩ => ⟨v', h1, RefX.put h2 hA2 hM h4, h4⟩
  · rw [if_neg h0] at hr
    injection hr with h1 h2; injection h2 with h2 h3; subst h1 h2 h3
    exact (rdrop_err w v N f t p hA hB.e hB.l (fun k hk => (hA2 k hk).1) _ rfl h0).mono fun r w' ⟨h1, h2⟩ => ⟨_, h1, RefX.ext ⟨A, hA, hA2⟩ h2, h2⟩
theorem rdownX (w : World) (v : Value) (N : NA) (f t : Int) (is : Bool) (h : RefX w M v N) (hM : ∀ k, M k → k < w.heap.size) (hB : NB N k) (hk : k ≤ 1000) (N' : NA) (e : Nat) (ze : Int) (hr : N.downR f t is = (N', e)) (hze : ze = e) :
    Calls Try.prog 51 #[v, .int .i64 f, .int .i64 t, .bool is] w fun r w' => ∃ v', r = .returned (.tuple #[v', .int .i64 ze]) ∧ RefX w' M v' N' ∧ Ext w w' := by
  subst hze
  obtain ⟨A, hA, hA2⟩ := h
  have hd := hB.d
  unfold NA.downR at hr
  cases h0 : (N.endB f && N.endB t) with
  | true =>
    rw [if_pos h0] at hr
    injection hr with h1 h2; subst h1 h2
    exact (rdown_ok w v N f t is hA hB.e (by omega) (fun k hk => (hA2 k hk).1) h0).mono fun r w' ⟨v', h1, h2, h4⟩ => ⟨v', h1, RefX.put h2 hA2 hM h4, h4⟩
  | false =>
    rw [if_neg (by rw [h0]; simp)] at hr
    injection hr with h1 h2; subst h1 h2
    exact (rdown_arg w v N f t is hA hB.e h0).mono fun r w' ⟨h1, h2⟩ => ⟨_, h1, RefX.ext ⟨A, hA, hA2⟩ h2, h2⟩
end
def NA.act (N : NA) (x : Ac) : NA := if x.what = 0 then (N.putR x.src x.dst x.bytes).1 else if x.what = 1 then N else if x.what = 2 then (N.takeR x.src x.dst x.pick).1 else if x.what = 3 then (N.dropR x.src x.dst x.pick).1 else (N.downR x.src x.dst x.is).1
theorem NB.act {N : NA} {k : Nat} (h : NB N k) (x : Ac) : NB (N.act x) (k + 1) := by
  unfold NA.act
  split; · exact h.put _ _ _
  split; · exact h.mono (by omega)
  split; · exact h.take _ _ _
  split; · exact h.drop _ _ _
  exact h.down _ _ _
def ActPost (w : World) (F M : Nat → Prop) (b : Nat) (N : NA) (x : Ac) (e : Ending) (w' : World) : Prop :=
  ∃ F' M' v', e = .returned (.tuple #[v', .bool true]) ∧ NetX w' F' M' b (N.act x) ∧ RefX w' M' v' (N.act x) ∧ Step w w' F M F' M'
end Go.Proofs.Ytdiogipdcpiffaa
