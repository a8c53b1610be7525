/- The calls of the net's statements as they lie in memory, 'few', and SameParcel. Conditions: they lie as 'Acts' says. -/
import Derived.Test.YtdiogipdcpiffaaNetW
set_option linter.unusedVariables false
set_option maxHeartbeats 400000
set_option maxRecDepth 10000
namespace Go.Proofs.Ytdiogipdcpiffaa
open Go.RowKit

structure Ac where
  what : Int
  src : Int
  dst : Int
  pick : Int
  bytes : List UInt8
  is : Bool
def Ac.ok (x : Ac) : Prop := I64 x.src ∧ I64 x.dst ∧ I64 x.pick
def ActEn (w : World) (A : Nat → Prop) (c : List Value) (x : Ac) : Prop := ∃ bv, c = [.int .i64 x.what, .int .i64 x.src, .int .i64 x.dst, .int .i64 x.pick, bv, .bool x.is] ∧ Bytes w A bv x.bytes
def ActAt (w : World) (A : Nat → Prop) (b o : Nat) (x : Ac) : Prop := ∃ c, ActEn w A c x ∧ c.length = 6 ∧ ∀ j, j < 6 → w.cell? ⟨b, o + j, none⟩ = c[j]?
def ActV (w : World) (A : Nat → Prop) (v : Value) (x : Ac) : Prop := ∃ bv, v = .agg #[.int .i64 x.what, .int .i64 x.src, .int .i64 x.dst, .int .i64 x.pick, bv, .bool x.is] ∧ Bytes w A bv x.bytes
def Acts (w : World) (A : Nat → Prop) (v : Value) (l : List Ac) : Prop := SlV A (ActAt w A) 6 v l
theorem ActAt.keeps {S A : Nat → Prop} {w w' : World} {b o : Nat} {x : Ac} (h : ActAt w A b o x) (hk : Keeps S w w') (hb : ¬ S b) (hA : ∀ k, A k → ¬ S k) : ActAt w' A b o x := by
  obtain ⟨c, ⟨bv, h0, h1⟩, h2, h3⟩ := h
  refine ⟨c, ⟨bv, h0, h1.keeps hk hA⟩, h2, fun j hj => ?_⟩
  have hc : c[j]? = some (c[j]'(by omega)) := List.getElem?_eq_getElem _
  have := h3 j hj
  rw [hc] at this ⊢
  exact hk.cell hb this
theorem ActAt.reads {A : Nat → Prop} {w : World} {b o : Nat} {x : Ac} (h : ActAt w A b o x) : w.cell? ⟨b, o, none⟩ = some (.int .i64 x.what) ∧ w.cell? ⟨b, o + 1, none⟩ = some (.int .i64 x.src) ∧ w.cell? ⟨b, o + 2, none⟩ = some (.int .i64 x.dst) ∧ w.cell? ⟨b, o + 3, none⟩ = some (.int .i64 x.pick) ∧
    w.cell? ⟨b, o + 5, none⟩ = some (.bool x.is) ∧ ∃ a n, w.cell? ⟨b, o + 4, none⟩ = some (.slice a x.bytes.length n) ∧ Bytes w A (.slice a x.bytes.length n) x.bytes := by
  obtain ⟨c, ⟨bv, rfl, h1⟩, h2, h3⟩ := h
  obtain ⟨a, n, rfl⟩ := h1.len
  exact ⟨h3 0 (by decide), h3 1 (by decide), h3 2 (by decide), h3 3 (by decide), h3 5 (by decide), a, n, h3 4 (by decide), h1⟩
theorem Acts.keeps {S A : Nat → Prop} {w w' : World} {v : Value} {l : List Ac} (h : Acts w A v l) (hk : Keeps S w w') (hA : ∀ k, A k → ¬ S k) : Acts w' A v l :=
  SlV.mono h (fun _ h => h) fun b o x ha hb => hb.keeps hk (hA b ha) hA
theorem Acts.ext {A : Nat → Prop} {w w' : World} {v : Value} {l : List Ac} (h : Acts w A v l) (hk : Ext w w') : Acts w' A v l := h.keeps hk fun _ _ => noB _
theorem Acts.at {A : Nat → Prop} {w : World} {v : Value} {l : List Ac} (h : Acts w A v l) : ∃ a c, v = .slice a l.length c ∧ ∀ i (h : i < l.length), ∃ b o, a = some ⟨b, o, none⟩ ∧ l.length ≤ c ∧ A b ∧ ActAt w A b (o + i * 6) l[i] := by
  rcases h with ⟨a, rfl, rfl⟩ | ⟨b, o, c, rfl, h1, h2, h3⟩
  · exact ⟨_, _, rfl, fun i hi => by simp at hi⟩
  · exact ⟨_, _, rfl, fun i hi => ⟨b, o, rfl, h1, h2, h3 i hi⟩⟩

def fewOf (l : List Ac) (most : Int) : Bool := (l.all fun x => decide (x.bytes.length ≤ 200)) && decide ((l.length : Int) ≤ most)
theorem few_no {l : List Ac} {most : Int} {k : Nat} (hk : k < l.length) (h : 200 < l[k].bytes.length) : fewOf l most = false := by
  unfold fewOf
  rw [Bool.and_eq_false_iff]
  left
  rw [List.all_eq_false]
  exact ⟨l[k], List.getElem_mem hk, by simp; omega⟩
theorem few_yes {l : List Ac} {most : Int} (h : ∀ j (hj : j < l.length), l[j].bytes.length ≤ 200) : fewOf l most = decide ((l.length : Int) ≤ most) := by
  unfold fewOf
  have : (l.all fun x => decide (x.bytes.length ≤ 200)) = true := by
    rw [List.all_eq_true]
    intro x hx
    obtain ⟨j, hj, rfl⟩ := List.getElem_of_mem hx
    simpa using h j hj
  rw [this, Bool.true_and]
theorem few_spec {l : List Ac} {most : Int} (h : fewOf l most = true) : (∀ x ∈ l, x.bytes.length ≤ 200) ∧ (l.length : Int) ≤ most := by
  unfold fewOf at h
  rw [Bool.and_eq_true, List.all_eq_true] at h
  exact ⟨fun x hx => by simpa using h.1 x hx, by simpa using h.2⟩

theorem few_any {A : Nat → Prop} (w : World) (v : Value) (l : List Ac) (most : Int) (h : Acts w A v l) (hn : l.length ≤ 9223372036854775807) (hb : ∀ x ∈ l, x.bytes.length ≤ 9223372036854775807) :
    Calls Try.prog 15 #[v, .int .i64 most] w fun e w' => e = .returned (.bool (fewOf l most)) ∧ w = w' := by
  obtain ⟨a, c, rfl, hat⟩ := h.at
  have HAT := Lib.hid hat
  have HBN := Lib.hid hb
  clear h hat hb
  go_enter Try.func15, Try.ntmps15
  go_wp2_with fail
  go_loop [5] (fun i => ∃ k : Nat, k ≤ l.length ∧ i = .int .i64 k ∧ Hid (∀ j (hj : j < l.length), j < k → l[j].bytes.length ≤ 200)) (fun i => l.length - (intOf i).toNat)
  case atStart => exact ⟨0, Nat.zero_le _, rfl, fun j _ h => by omega⟩
  case round =>
    obtain ⟨k, hk, rfl, hh⟩ := hrel
    by_cases hlt : k < l.length
    · obtain ⟨b, o, rfl, hc, hAb, hact⟩ := HAT.out k hlt
      obtain ⟨i0, i1, i2, i3, i5, a', c', i4, i6⟩ := hact.reads
      have hbn := HBN.out _ (List.getElem_mem hlt)
      clear i6 hact
      by_cases hbig : 200 < l[k].bytes.length
      · have hf := few_no (most := most) hlt hbig
        go_wp2_with fail
        go_ret
        exact ⟨rfl, rfl⟩
      · have H2 : Hid (∀ j (hj : j < l.length), j < k + 1 → l[j].bytes.length ≤ 200) := fun j hj h => by
          by_cases hjk : j = k
          · subst hjk; omega
          · exact hh.out j hj (by omega)
        go_wp2_with fail
        go_round
        case rel => exact ⟨k + 1, by omega, by go_num, H2⟩
        case measure => simp [intOf]; omega
    · have hf := few_yes (l := l) (most := most) fun j hj => hh.out j hj (by omega)
      clear hh
      by_cases hm : (l.length : Int) ≤ most
      · have hf2 : fewOf l most = true := by rw [hf, decide_eq_true hm]
        clear hf
        go_wp2_with fail
        go_ret
        exact ⟨rfl, rfl⟩
      · have hf2 : fewOf l most = false := by rw [hf, decide_eq_false hm]
        clear hf
        go_wp2_with fail
        go_ret
        exact ⟨rfl, rfl⟩
def sameP (x y : Pc) : Bool := x.num == y.num && x.src == y.src && x.dst == y.dst && x.bytes == y.bytes
theorem sameP_self (x : Pc) : sameP x x = true := by simp [sameP]
theorem sameP_eq {x y : Pc} (h : sameP x y = true) : x = y := by
  obtain ⟨a, b, c, d⟩ := x
  obtain ⟨a', b', c', d'⟩ := y
  simp [sameP] at h
  obtain ⟨⟨⟨rfl, rfl⟩, rfl⟩, rfl⟩ := h
  rfl
theorem same_par {A B : Nat → Prop} (w : World) (x y : Pc) (v v' : Value) (hv : ParV w A v x) (hv' : ParV w B v' y) :
    Calls Try.prog 19 #[v, v'] w fun e w' => e = .returned (.bool (sameP x y)) ∧ Ext w w' := by
  obtain ⟨bx, rfl, hx⟩ := hv
  obtain ⟨by', rfl, hy⟩ := hv'
  obtain ⟨a1, c1, rfl⟩ := hx.len
  obtain ⟨a2, c2, rfl⟩ := hy.len
  obtain ⟨xn, xs, xd, xb⟩ := x
  obtain ⟨yn, ys, yd, yb⟩ := y
  dsimp only at hx hy ⊢
  have e0 : Ext w ((w.alloc (Obj.cells #[.int .i64 (xn : Int), .int .i64 xs, .int .i64 xd, .slice a1 xb.length c1] 50)).alloc (Obj.cells #[.int .i64 (yn : Int), .int .i64 ys, .int .i64 yd, .slice a2 yb.length c2] 50)) := ((Keeps.refl _ _).alloc _).alloc _
  have hc1 := (hx.ext e0).str
  have hc2 := (hy.ext e0).str
  have HE := Lib.hid e0
  clear hx hy e0
  have hl1 := bs_toList xb
  have hl2 := bs_toList yb
  have hd : sameP ⟨xn, xs, xd, xb⟩ ⟨yn, ys, yd, yb⟩ = (xn == yn && xs == ys && xd == yd && xb == yb) := rfl
  have HD := Lib.hid hd
  clear hd
  by_cases h0 : xn = yn
  · subst h0
    by_cases h1 : xs = ys
    · subst h1
      by_cases h2 : xd = yd
      · subst h2
        go_enter Try.func19, Try.ntmps19
        go_wp2_with fail
        go_ret
        exact ⟨by rw [HD.out]; simp, HE.out⟩
      · have hk : (xd == yd) = false := beq_eq_false_iff_ne.2 h2
        go_enter Try.func19, Try.ntmps19
        go_wp2_with fail
        go_ret
        exact ⟨by rw [HD.out, hk]; simp, HE.out⟩
    · have hk : (xs == ys) = false := beq_eq_false_iff_ne.2 h1
      go_enter Try.func19, Try.ntmps19
      go_wp2_with fail
      go_ret
      exact ⟨by rw [HD.out, hk]; simp, HE.out⟩
  · have hk : (xn == yn) = false := beq_eq_false_iff_ne.2 h0
    have hk2 : ((xn : Int) == (yn : Int)) = false := beq_eq_false_iff_ne.2 (by omega)
    go_enter Try.func19, Try.ntmps19
    go_wp2_with fail
    go_ret
    exact ⟨by rw [HD.out, hk]; simp, HE.out⟩
end Go.Proofs.Ytdiogipdcpiffaa
