/- The ring's closures and find: what they tell. Conditions: the ring is laid out as 'RingAt' says. -/
import Derived.Test.YtocjnieehogcbaaRing
set_option linter.unusedVariables false
set_option maxHeartbeats 400000
namespace Go.Proofs.Ytocjnieehogcbaa
open Go.RowKit

def p33 (x : It) (y : It) : Bool := x.side && y.side && (y.key == x.key)
theorem c33_any {A : Nat → Prop} (W : World) (bx : Nat) (x y : It) (v : Value) (h0 : W.cell? ⟨bx, 0, none⟩ = some (.bool x.side)) (h1 : W.cell? ⟨bx, 1, none⟩ = some (.int .i64 x.key)) (hv : ItemV W A v y) :
    Calls Try.prog 33 #[v, .pointer (some ⟨bx, 0, none⟩)] W fun e W' => e = .returned (.bool (p33 x y)) ∧ Ext W W' := by
  obtain ⟨bv, rfl, hb⟩ := hv
  obtain ⟨a, c, rfl⟩ := hb.len
  have hlt := World.block_lt_of_cell? _ _ h0
  clear hb
  obtain ⟨xs, xk, xb⟩ := x
  obtain ⟨ys, yk, yb⟩ := y
  unfold p33
  dsimp only at *
  cases xs <;> cases ys
  all_goals
    go_enter Try.func33, Try.ntmps33
    go_wp2
    go_ret
    exact ⟨by simp, (Keeps.refl _ _).alloc _⟩
def p34 (y : It) : Bool := y.side
theorem c34_any {A : Nat → Prop} (W : World) (y : It) (v : Value) (hv : ItemV W A v y) :
    Calls Try.prog 34 #[v] W fun e W' => e = .returned (.bool (p34 y)) ∧ Ext W W' := by
  obtain ⟨bv, rfl, hb⟩ := hv
  obtain ⟨a, c, rfl⟩ := hb.len
  clear hb
  go_enter Try.func34, Try.ntmps34
  go_wp2
  go_ret
  exact ⟨rfl, (Keeps.refl _ _).alloc _⟩
theorem c30_any {A : Nat → Prop} (W : World) (x : It) (v : Value) (hv : ItemV W A v x) :
    Calls Try.prog 30 #[v] W fun e W' => e = .returned (.bool (!x.side && x.key != 0)) ∧ Ext W W' := by
  obtain ⟨bv, rfl, hb⟩ := hv
  obtain ⟨a, c, rfl⟩ := hb.len
  clear hb
  obtain ⟨xs, xk, xb⟩ := x
  dsimp only at *
  cases xs
  all_goals
    go_enter Try.func30, Try.ntmps30
    go_wp2
    go_ret
    exact ⟨by simp, (Keeps.refl _ _).alloc _⟩
theorem c31_any {A : Nat → Prop} (W : World) (x : It) (v : Value) (hv : ItemV W A v x) (hl : x.bytes.length ≤ 1000000) :
    Calls Try.prog 31 #[v] W fun e W' => e = .returned (.bool (decide (1024 < x.bytes.length))) ∧ Ext W W' := by
  obtain ⟨bv, rfl, hb⟩ := hv
  obtain ⟨a, c, rfl⟩ := hb.len
  clear hb
  by_cases hd : 1024 < x.bytes.length
  all_goals
    go_enter Try.func31, Try.ntmps31
    go_wp2
    go_ret
    exact ⟨by simp; omega, (Keeps.refl _ _).alloc _⟩
theorem c28_any {A : Nat → Prop} (W : World) (br : Nat) (p : Option Addr) (no : Bool) (x : It) (v : Value) (hr : W.cell? ⟨br, 0, none⟩ = some (.pointer p)) (hv : ItemV W A v x)
    (hno : ∀ W', Ext W W' → Calls Try.prog 29 #[.pointer p] W' fun e w' => e = .returned (.bool no) ∧ W' = w') :
    Calls Try.prog 28 #[v, .pointer (some ⟨br, 0, none⟩)] W fun e W' => e = .returned (.bool no) ∧ Ext W W' := by
  obtain ⟨bv, rfl, hb⟩ := hv
  obtain ⟨a, c, rfl⟩ := hb.len
  clear hb
  have hlt := World.block_lt_of_cell? _ _ hr
  have HN := Lib.hid hno
  clear hno
  go_enter Try.func28, Try.ntmps28
  go_wp2_with fail
  refine (HN.out _ ((Keeps.refl _ _).alloc _)).mono ?_
  rintro e W' ⟨rfl, rfl⟩
  go_wp2
  go_ret
  exact ⟨rfl, (Keeps.refl _ _).alloc _⟩

def findI (p : It → Bool) (l : List It) : Int := match l.findIdx? p with | some i => (i : Int) | none => -1
theorem findI_some {p : It → Bool} {l : List It} {k : Nat} (hk : k < l.length) (hp : p l[k] = true) (hn : ∀ j (h : j < l.length), j < k → p l[j] = false) : findI p l = k := by
  unfold findI
  have : l.findIdx? p = some k := by
    rw [List.findIdx?_eq_some_iff_getElem]
    exact ⟨hk, hp, fun j hj => by rw [hn j (by omega) hj]; exact Bool.false_ne_true⟩
  rw [this]
theorem findI_none {p : It → Bool} {l : List It} (hn : ∀ j (h : j < l.length), p l[j] = false) : findI p l = -1 := by
  unfold findI
  have : l.findIdx? p = none := by
    rw [List.findIdx?_eq_none_iff]
    intro x hx
    obtain ⟨j, hj, rfl⟩ := List.getElem_of_mem hx
    exact hn j hj
  rw [this]

theorem find33 {A : Nat → Prop} {b f : Nat} {R : AR} {w : World} (h : RingAt w A b f R) (bx : Nat) (x : It) (h0 : w.cell? ⟨bx, 0, none⟩ = some (.bool x.side)) (h1 : w.cell? ⟨bx, 1, none⟩ = some (.int .i64 x.key)) :
    Calls Try.prog 32 #[.pointer (some ⟨b, 0, none⟩), .func (.func 33) #[] #[.pointer (some ⟨bx, 0, none⟩)]] w fun e w' => e = .returned (.int .i64 (findI (p33 x) R.items)) ∧ Ext w w' := by
  have g1 := h.c1
  have hl := h.hl
  have hm := h.hm
  have hbl := h.lt
  have HR := Lib.hid h
  clear h
  have H0 := Lib.hid h0; have H1 := Lib.hid h1; clear h0 h1
  go_enter Try.func32, Try.ntmps32
  go_wp2_with fail
  go_loopw [11] (fun i wr => ∃ k : Nat, k ≤ R.items.length ∧ i = .int .i64 k ∧ Ext w wr ∧ Hid (∀ j (h : j < R.items.length), j < k → (p33 x) R.items[j] = false)) (fun i _ => R.items.length - (intOf i).toNat)
  case atStart => exact ⟨0, Nat.zero_le _, rfl, Keeps.refl _ _, fun j _ h => by omega⟩
  case round =>
    obtain ⟨k, hk, rfl, he, hn⟩ := hrel
    by_cases hlt : k < R.items.length
    · obtain ⟨q, hq⟩ : ∃ q, (f + k) % R.most = q := ⟨_, rfl⟩
      have hit := (HR.out.ext he).it k hlt
      rw [hq] at hit
      have HQ := Lib.hid hq
      have HE := Lib.hid he
      clear hq he
      go_wp2_with fail
      refine (at_ring (HR.out.ext HE.out) k (by omega) _ rfl q HQ.out).mono ?_
      rintro e W1 ⟨rfl, hW⟩
      obtain ⟨i1, i2, bv, i3, i4⟩ := hit.keeps hW (noB b) (fun _ _ => noB _)
      obtain ⟨a, c, rfl⟩ := i4.len
      have HE1 := Lib.hid (HE.out.ext hW)
      have HI := Lib.hid i4
      clear hit hW i4
      go_wp2_with fail
      have hE1 := HE1.out
      refine (c33_any (A := A) _ bx x _ _ (Ext.cell hE1 H0.out) (Ext.cell hE1 H1.out) ⟨_, rfl, HI.out⟩).mono ?_
      rintro e W2 ⟨rfl, hW2⟩
      have HE2 := Lib.hid (HE1.out.ext hW2)
      clear hE1 hW2
      cases hp : (p33 x) R.items[k] with
      | true =>
        have HF := Lib.hid (findI_some hlt hp fun j h h' => hn.out j h h')
        clear hp
        go_wp2_with fail
        go_ret
        exact ⟨by rw [HF.out]; rfl, HE2.out⟩
      | false =>
        have HF : Hid (∀ j (h : j < R.items.length), j < k + 1 → (p33 x) R.items[j] = false) := fun j h h' => by
          by_cases hjk : j = k
          · subst hjk; exact hp
          · exact hn.out j h (by omega)
        clear hp
        go_wp2_with fail
        go_roundw
        case rel => exact ⟨k + 1, by omega, by go_num, HE2.out, HF⟩
        case measure => simp [intOf]; omega
    · have HF : Hid (findI (p33 x) R.items = -1) := findI_none fun j h => hn.out j h (by omega)
      have HE := Lib.hid he
      clear he
      go_wp2_with fail
      go_ret
      exact ⟨by rw [HF.out]; rfl, HE.out⟩
theorem find34 {A : Nat → Prop} {b f : Nat} {R : AR} {w : World} (h : RingAt w A b f R)  :
    Calls Try.prog 32 #[.pointer (some ⟨b, 0, none⟩), .func (.func 34) #[] #[]] w fun e w' => e = .returned (.int .i64 (findI p34 R.items)) ∧ Ext w w' := by
  have g1 := h.c1
  have hl := h.hl
  have hm := h.hm
  have hbl := h.lt
  have HR := Lib.hid h
  clear h
  skip
  go_enter Try.func32, Try.ntmps32
  go_wp2_with fail
  go_loopw [11] (fun i wr => ∃ k : Nat, k ≤ R.items.length ∧ i = .int .i64 k ∧ Ext w wr ∧ Hid (∀ j (h : j < R.items.length), j < k → p34 R.items[j] = false)) (fun i _ => R.items.length - (intOf i).toNat)
  case atStart => exact ⟨0, Nat.zero_le _, rfl, Keeps.refl _ _, fun j _ h => by omega⟩
  case round =>
    obtain ⟨k, hk, rfl, he, hn⟩ := hrel
    by_cases hlt : k < R.items.length
    · obtain ⟨q, hq⟩ : ∃ q, (f + k) % R.most = q := ⟨_, rfl⟩
      have hit := (HR.out.ext he).it k hlt
      rw [hq] at hit
      have HQ := Lib.hid hq
      have HE := Lib.hid he
      clear hq he
      go_wp2_with fail
      refine (at_ring (HR.out.ext HE.out) k (by omega) _ rfl q HQ.out).mono ?_
      rintro e W1 ⟨rfl, hW⟩
      obtain ⟨i1, i2, bv, i3, i4⟩ := hit.keeps hW (noB b) (fun _ _ => noB _)
      obtain ⟨a, c, rfl⟩ := i4.len
      have HE1 := Lib.hid (HE.out.ext hW)
      have HI := Lib.hid i4
      clear hit hW i4
      go_wp2_with fail
      have hE1 := HE1.out
      refine (c34_any (A := A) _ _ _ ⟨_, rfl, HI.out⟩).mono ?_
      rintro e W2 ⟨rfl, hW2⟩
      have HE2 := Lib.hid (HE1.out.ext hW2)
      clear hE1 hW2
      cases hp : p34 R.items[k] with
      | true =>
        have HF := Lib.hid (findI_some hlt hp fun j h h' => hn.out j h h')
        clear hp
        go_wp2_with fail
        go_ret
        exact ⟨by rw [HF.out]; rfl, HE2.out⟩
      | false =>
        have HF : Hid (∀ j (h : j < R.items.length), j < k + 1 → p34 R.items[j] = false) := fun j h h' => by
          by_cases hjk : j = k
          · subst hjk; exact hp
          · exact hn.out j h (by omega)
        clear hp
        go_wp2_with fail
        go_roundw
        case rel => exact ⟨k + 1, by omega, by go_num, HE2.out, HF⟩
        case measure => simp [intOf]; omega
    · have HF : Hid (findI p34 R.items = -1) := findI_none fun j h => hn.out j h (by omega)
      have HE := Lib.hid he
      clear he
      go_wp2_with fail
      go_ret
      exact ⟨by rw [HF.out]; rfl, HE.out⟩
end Go.Proofs.Ytocjnieehogcbaa
