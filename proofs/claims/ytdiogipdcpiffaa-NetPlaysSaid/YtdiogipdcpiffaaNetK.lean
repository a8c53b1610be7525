/- The net's calls, each told whole: what it answers and how the net stands behind it, refused or not. Conditions: the net lies as 'NetX' says. -/
import Derived.Test.YtdiogipdcpiffaaNetJ
import Derived.Lib.SlBytesConst
set_option linter.unusedVariables false
set_option maxHeartbeats 400000
set_option maxRecDepth 10000
namespace Go.Proofs.Ytdiogipdcpiffaa
open Go.RowKit

def Pc.zero : Pc := ⟨0, 0, 0, []⟩
def NA.putR (N : NA) (f t : Int) (l : List UInt8) : NA × Nat × Nat := if N.putErr f t l.length = 0 then (N.put f t l, N.came, 0) else (N, 0, N.putErr f t l.length)
def NA.iOf (N : NA) (f t p : Int) : Nat := pickOf p (N.on f t)
def NA.got (N : NA) (f t p : Int) : Pc := (N.l[N.iOf f t p]?).getD Pc.zero
def NA.peekErr (N : NA) (f t p : Int) : Nat := if N.pickErr f t = 0 then (if ((N.got f t p).src, (N.got f t p).dst) ∈ N.downs then 210 else 0) else N.pickErr f t
def NA.peekR (N : NA) (f t p : Int) : Pc × Nat := if N.peekErr f t p = 0 then (N.got f t p, 0) else (Pc.zero, N.peekErr f t p)
def NA.takeR (N : NA) (f t p : Int) : NA × Pc × Nat := if N.peekErr f t p = 0 then (N.without (N.iOf f t p), N.got f t p, 0) else (N, Pc.zero, N.peekErr f t p)
def NA.dropR (N : NA) (f t p : Int) : NA × Nat × Nat := if N.pickErr f t = 0 then (N.without (N.iOf f t p), (N.got f t p).num, 0) else (N, 0, N.pickErr f t)
def NA.downR (N : NA) (f t : Int) (is : Bool) : NA × Nat := if (N.endB f && N.endB t) = true then (N.down f t is, 0) else (N, 2)
def NA.lenR (N : NA) (f t : Int) : Nat := if N.link f t = true then (N.on f t).length else 0

theorem NA.got_at {N : NA} {f t p : Int} (h : N.pickErr f t = 0) : N.l[N.iOf f t p]? = some (N.got f t p) := by
  obtain ⟨h1, h2⟩ := NA.pick_zero h
  have h3 := N.on_lt f t _ (pickOf_mem p _ h2)
  have h4 : N.iOf f t p < N.l.length := h3
  unfold NA.got
  rw [List.getElem?_eq_getElem h4]; rfl
section
variable {F M : Nat → Prop}
theorem Step.of_ext {w w' : World} (h : Ext w w') : Step w w' F M F M := ⟨Ext.keeps h, fun _ h => .inl h, fun _ h => .inl h, fun _ h => h⟩
theorem zeroP_par (w : World) (A : Nat → Prop) : ParV w A zeroP Pc.zero := ⟨_, rfl, SlV.nil⟩

theorem put_any {B : Nat → Prop} (w : World) (b : Nat) (N : NA) (f t : Int) (v : Value) (l : List UInt8) (h : NetX w F M b N) (hf : I64 f) (ht : I64 t) (hv : Bytes w B v l) (hl : l.length ≤ 9223372036854775807) (hc : N.came ≤ 1000000)
    (N' : NA) (k e : Nat) (ze zk : Int) (hr : N.putR f t l = (N', k, e)) (hzk : zk = k) (hze : ze = e) :
    Calls Try.prog 11 #[.pointer (some ⟨b, 0, none⟩), .int .i64 f, .int .i64 t, v] w fun r w' => ∃ F' M', r = .returned (.tuple #[.int .i64 zk, .int .i64 ze]) ∧ NetX w' F' M' b N' ∧ Step w w' F M F' M' := by
  subst hzk hze
  unfold NA.putR at hr
  by_cases h0 : N.putErr f t l.length = 0
  · rw [if_pos h0] at hr
    injection hr with h1 h2; injection h2 with h2 h3; subst h1 h2 h3
    exact put_ok w b N f t v l h hf ht hv h0 hc
  · rw [if_neg h0] at hr
    injection hr with h1 h2; injection h2 with h2 h3; subst h1 h2 h3
    exact (put_err w b N f t v l h hf ht hv hl _ rfl h0).mono fun r w' ⟨h1, h2⟩ => ⟨F, M, h1, h.ext h2, Step.of_ext h2⟩
theorem peek_any (w : World) (b : Nat) (N : NA) (f t p : Int) (h : NetX w F M b N) (hp : I64 p) (x : Pc) (e : Nat) (ze : Int) (hr : N.peekR f t p = (x, e)) (hze : ze = e) :
    Calls Try.prog 30 #[.pointer (some ⟨b, 0, none⟩), .int .i64 f, .int .i64 t, .int .i64 p] w fun r w' => ∃ bv, r = .returned (.tuple #[.agg #[.int .i64 (x.num : Int), .int .i64 x.src, .int .i64 x.dst, bv], .int .i64 ze]) ∧ Bytes w' (Fr w w') bv x.bytes ∧ WrN w' bv ∧ Ext w w' := by
  subst hze
  unfold NA.peekR at hr
  by_cases h0 : N.peekErr f t p = 0
  · rw [if_pos h0] at hr
    injection hr with h1 h2; subst h1 h2
    unfold NA.peekErr at h0
    by_cases h1 : N.pickErr f t = 0
    · rw [if_pos h1] at h0
      have hd : ((N.got f t p).src, (N.got f t p).dst) ∉ N.downs := fun hm => by rw [if_pos hm] at h0; cases h0
      exact peek_ok w b N f t p h hp h1 _ _ rfl (NA.got_at h1) hd
    · rw [if_neg h1] at h0; exact absurd h0 h1
  · rw [if_neg h0] at hr
    injection hr with h1 h2; subst h1 h2
    have hz : ∀ k : Nat, N.peekErr f t p = k → (Calls Try.prog 30 #[.pointer (some ⟨b, 0, none⟩), .int .i64 f, .int .i64 t, .int .i64 p] w fun r w' => r = .returned (.tuple #[zeroP, .int .i64 (k : Int)]) ∧ Ext w w') := by
      intro k hk
      unfold NA.peekErr at hk h0
      by_cases h1 : N.pickErr f t = 0
      · rw [if_pos h1] at hk h0
        by_cases hm : ((N.got f t p).src, (N.got f t p).dst) ∈ N.downs
        · rw [if_pos hm] at hk; subst hk
          exact peek_down w b N f t p h hp h1 _ _ rfl (NA.got_at h1) hm
        · rw [if_neg hm] at h0; exact absurd rfl h0
      · rw [if_neg h1] at hk
        exact peek_err w b N f t p h k hk (hk ▸ h1)
    exact (hz _ rfl).mono fun r w' ⟨h1, h2⟩ => ⟨_, h1, SlV.nil, (fun b o n c h => by cases h), h2⟩
theorem take_any (w : World) (b : Nat) (N : NA) (f t p : Int) (h : NetX w F M b N) (hp : I64 p) (N' : NA) (x : Pc) (e : Nat) (ze : Int) (hr : N.takeR f t p = (N', x, e)) (hze : ze = e) :
    Calls Try.prog 23 #[.pointer (some ⟨b, 0, none⟩), .int .i64 f, .int .i64 t, .int .i64 p] w fun r w' => ∃ F' M' bv, r = .returned (.tuple #[.agg #[.int .i64 (x.num : Int), .int .i64 x.src, .int .i64 x.dst, bv], .int .i64 ze]) ∧ Bytes w' (fun k => Fr w w' k ∧ ¬ M' k) bv x.bytes ∧ NetX w' F' M' b N' ∧ Step w w' F M F' M' := by
  subst hze
  unfold NA.takeR at hr
  by_cases h0 : N.peekErr f t p = 0
  · rw [if_pos h0] at hr
    injection hr with h1 h2; injection h2 with h2 h3; subst h1 h2 h3
    unfold NA.peekErr at h0
    by_cases h1 : N.pickErr f t = 0
    · rw [if_pos h1] at h0
      have hd : ((N.got f t p).src, (N.got f t p).dst) ∉ N.downs := fun hm => by rw [if_pos hm] at h0; cases h0
      exact take_ok w b N f t p h hp h1 _ _ rfl (NA.got_at h1) hd
    · rw [if_neg h1] at h0; exact absurd h0 h1
  · rw [if_neg h0] at hr
    injection hr with h1 h2; injection h2 with h2 h3; subst h1 h2 h3
    have hpk : ∀ w, NetX w F M b N → Calls Try.prog 30 #[.pointer (some ⟨b, 0, none⟩), .int .i64 f, .int .i64 t, .int .i64 p] w fun r w' => r = .returned (.tuple #[zeroP, .int .i64 ((N.peekErr f t p : Nat) : Int)]) ∧ Ext w w' := by
      intro w h
      have hz : ∀ k : Nat, N.peekErr f t p = k → (Calls Try.prog 30 #[.pointer (some ⟨b, 0, none⟩), .int .i64 f, .int .i64 t, .int .i64 p] w fun r w' => r = .returned (.tuple #[zeroP, .int .i64 (k : Int)]) ∧ Ext w w') := by
        intro k hk
        unfold NA.peekErr at hk h0
        by_cases h1 : N.pickErr f t = 0
        · rw [if_pos h1] at hk h0
          by_cases hm : ((N.got f t p).src, (N.got f t p).dst) ∈ N.downs
          · rw [if_pos hm] at hk; subst hk
            exact peek_down w b N f t p h hp h1 _ _ rfl (NA.got_at h1) hm
          · rw [if_neg hm] at h0; exact absurd rfl h0
        · rw [if_neg h1] at hk
          exact peek_err w b N f t p h k hk (hk ▸ h1)
      exact hz _ rfl
    exact (take_none w b N f t p h _ hpk h0).mono fun r w' ⟨h1, h2⟩ => ⟨F, M, _, h1, SlV.nil, h.ext h2, Step.of_ext h2⟩
theorem drop_any (w : World) (b : Nat) (N : NA) (f t p : Int) (h : NetX w F M b N) (hp : I64 p) (N' : NA) (k e : Nat) (ze zk : Int) (hr : N.dropR f t p = (N', k, e)) (hzk : zk = k) (hze : ze = e) :
    Calls Try.prog 13 #[.pointer (some ⟨b, 0, none⟩), .int .i64 f, .int .i64 t, .int .i64 p] w fun r w' => ∃ F' M', r = .returned (.tuple #[.int .i64 zk, .int .i64 ze]) ∧ NetX w' F' M' b N' ∧ Step w w' F M F' M' := by
  subst hzk hze
  unfold NA.dropR at hr
  by_cases h0 : N.pickErr f t = 0
  · rw [if_pos h0] at hr
    injection hr with h1 h2; injection h2 with h2 h3; subst h1 h2 h3
    exact drop_ok w b N f t p h hp h0 _ _ rfl (NA.got_at h0)
  · rw [if_neg h0] at hr
    injection hr with h1 h2; injection h2 with h2 h3; subst h1 h2 h3
    exact (drop_err w b N f t p h _ rfl h0).mono fun r w' ⟨h1, h2⟩ => ⟨F, M, h1, h.ext h2, Step.of_ext h2⟩
theorem down_any (w : World) (b : Nat) (N : NA) (f t : Int) (is : Bool) (h : NetX w F M b N) (hf : I64 f) (ht : I64 t) (N' : NA) (e : Nat) (ze : Int) (hr : N.downR f t is = (N', e)) (hze : ze = e) :
    Calls Try.prog 24 #[.pointer (some ⟨b, 0, none⟩), .int .i64 f, .int .i64 t, .bool is] w fun r w' => r = .returned (.int .i64 ze) ∧ NetX w' F M b N' ∧ Step w w' F M F M := by
  subst hze
  unfold NA.downR at hr
  cases h0 : (N.endB f && N.endB t) with
  | true =>
    rw [if_pos h0] at hr
    injection hr with h1 h2; subst h1 h2
    exact down_ok w b N f t is h h0 hf ht
  | false =>
    rw [if_neg (by rw [h0]; simp)] at hr
    injection hr with h1 h2; subst h1 h2
    exact (down_arg w b N f t is h h0).mono fun r w' ⟨h1, h2⟩ => ⟨h1, h.ext h2, Step.of_ext h2⟩
theorem len_any (w : World) (b : Nat) (N : NA) (f t : Int) (h : NetX w F M b N) (k : Nat) (zk : Int) (hr : N.lenR f t = k) (hzk : zk = k) :
    Calls Try.prog 14 #[.pointer (some ⟨b, 0, none⟩), .int .i64 f, .int .i64 t] w fun r w' => r = .returned (.int .i64 zk) ∧ Ext w w' := by
  subst hzk
  unfold NA.lenR at hr
  cases h0 : N.link f t with
  | true => rw [if_pos h0] at hr; subst hr; exact len_some w b N f t h h0
  | false => rw [if_neg (by rw [h0]; simp)] at hr; subst hr; exact len_arg w b N f t h h0
end
/-- old, and none of M -/
def Out (w : World) (M : Nat → Prop) : Nat → Prop := fun k => k < w.heap.size ∧ ¬ M k
section
variable {w0 w w' : World} {F M F' M' : Nat → Prop} {b p : Nat} {N N' : NA} {v : Value} {l : List UInt8} {t : TypeId} {cs : List Value}
theorem Step.out (h : Step w w' F M F' M') (k : Nat) (hk : Out w M k) : Out w' M' k :=
  ⟨Nat.lt_of_lt_of_le hk.1 h.keeps.size, fun hm => (h.inM k hm).elim hk.2 (fun hn => by have := hk.1; omega)⟩
theorem Out.ext (h : Out w M p) (hk : Ext w w') : Out w' M p := ⟨Nat.lt_of_lt_of_le h.1 hk.size, h.2⟩
theorem Out.step (h : Out w M p) (hs : Step w w' F M F' M') : Out w' M' p := hs.out p h
/-- bytes that no net turns -/
def OB (w : World) (M : Nat → Prop) (v : Value) (l : List UInt8) : Prop := Bytes w (Out w M) v l
theorem OB.ext (h : OB w M v l) (hk : Ext w w') : OB w' M v l := (Bytes.ext h hk).mono fun k hk' => Out.ext hk' hk
theorem OB.step (h : OB w M v l) (hs : Step w w' F M F' M') (hF : ∀ k, F k → M k) : OB w' M' v l := (Bytes.keeps h hs.keeps fun k hk hf => hk.2 (hF k hf)).mono fun k hk' => hs.out k hk'
/-- a box that no net turns -/
def OBox (w : World) (M : Nat → Prop) (p : Nat) (t : TypeId) (cs : List Value) : Prop := Box w p t cs ∧ ¬ M p
theorem OBox.ext (h : OBox w M p t cs) (hk : Ext w w') : OBox w' M p t cs := ⟨h.1.ext hk, h.2⟩
theorem OBox.step (h : OBox w M p t cs) (hs : Step w w' F M F' M') (hF : ∀ k, F k → M k) : OBox w' M' p t cs := ⟨h.1.keeps hs.keeps fun hf => h.2 (hF p hf), (hs.out p ⟨h.1.lt, h.2⟩).2⟩
theorem OBox.out (h : OBox w M p t cs) : Out w M p := ⟨h.1.lt, h.2⟩
/-- a net laid since w0, of which nothing older turns -/
structure Rig (w0 w : World) (F M : Nat → Prop) (b : Nat) (N : NA) : Prop where
  net : NetX w F M b N
  base : ∀ k, M k → w0.heap.size ≤ k
  E : Ext w0 w
theorem Rig.ext (h : Rig w0 w F M b N) (hk : Ext w w') : Rig w0 w' F M b N := ⟨h.net.ext hk, h.base, Keeps.ext h.E hk⟩
theorem Rig.step (h : Rig w0 w F M b N) (hn : NetX w' F' M' b N') (hs : Step w w' F M F' M') : Rig w0 w' F' M' b N' :=
  ⟨hn, fun k hk => (hs.inM k hk).elim (h.base k) fun h1 => Nat.le_trans h.E.size h1, h.E.then hs.keeps fun i hi hf => by have := h.base i (h.net.FM i hf); omega⟩
theorem Rig.old (h : Rig w0 w F M b N) (k : Nat) (hk : k < w0.heap.size) : Out w M k := ⟨Nat.lt_of_lt_of_le hk h.E.size, fun hm => by have := h.base k hm; omega⟩
theorem Rig.new (h : Rig w0 w F M b N) (k : Nat) (hk : w.heap.size ≤ k) : ¬ M k := fun hm => by have := h.net.below k hm; omega
theorem Rig.nbox (h : Rig w0 w F M b N) {q : Nat} (hq : w.heap.size ≤ q) (hb : Box w' q t cs) : OBox w' M q t cs := ⟨hb, h.new q hq⟩
end
theorem bytes_one {w : World} {q : Nat} {t : TypeId} {c : UInt8} (h : Box w q t [byV c]) : Bytes w (OneB q) (.slice (some ⟨q, 0, none⟩) 1 1) [c] :=
  .inr ⟨q, 0, 1, rfl, by simp, rfl, fun i hi => by
    obtain rfl : i = 0 := by simp at hi; omega
    exact h.reads.1 0⟩
theorem bytes_const (w : World) (c : UInt8) (n m : Nat) : Bytes (w.alloc (.cells #[byV c] 5 (n, m))) (OneB w.heap.size) (.slice (some ⟨w.heap.size, 0, none⟩) 1 1) [c] ∧ Ext w (w.alloc (.cells #[byV c] 5 (n, m))) := by
  refine ⟨.inr ⟨w.heap.size, 0, 1, rfl, by simp, rfl, fun i hi => ?_⟩, (Keeps.refl _ _).alloc _⟩
  obtain rfl : i = 0 := by simp at hi; omega
  exact World.cell?_alloc_mark w #[byV c] _ _ 0
theorem num_any (n : Int) (w : World) :
    Calls Try.prog 12 #[.int .i64 n] w fun e w' => e = .returned (.int .i64 n) ∧ w = w' := by
  go_enter Try.func12, Try.ntmps12
  go_wp2
  go_ret
  exact ⟨rfl, rfl⟩
end Go.Proofs.Ytdiogipdcpiffaa
