/- The document's net (antiphonref11): New, End, IsDown, On. Conditions: it lies as 'RefV' says. -/
import Derived.Test.YtdiogipdcpiffaaNetL
set_option linter.unusedVariables false
set_option maxHeartbeats 400000
set_option maxRecDepth 10000
namespace Go.Proofs.Ytdiogipdcpiffaa
open Go.RowKit

def PairEn (c : List Value) (p : Int × Int) : Prop := c = [.int .i64 p.1, .int .i64 p.2]
def PairAt (w : World) (b o : Nat) (p : Int × Int) : Prop := w.cell? ⟨b, o, none⟩ = some (.int .i64 p.1) ∧ w.cell? ⟨b, o + 1, none⟩ = some (.int .i64 p.2)
def PairsV (w : World) (A : Nat → Prop) (v : Value) (l : List (Int × Int)) : Prop := SlV A (PairAt w) 2 v l
def RefV (w : World) (A : Nat → Prop) (v : Value) (N : NA) : Prop := ∃ sv dv, v = .agg #[.int .i64 (N.ends : Int), .int .i64 (N.most : Int), .int .i64 (N.came : Int), sv, dv] ∧ ParsV w A sv N.l ∧ PairsV w A dv N.downs
section
variable {w w' : World} {S A A' : Nat → Prop} {v : Value} {N : NA} {l : List (Int × Int)}
theorem PairsV.keeps (h : PairsV w A v l) (hk : Keeps S w w') (hA : ∀ k, A k → ¬ S k) : PairsV w' A v l :=
  SlV.mono h (fun _ h => h) fun b o x hb hi => ⟨hk.cell (hA b hb) hi.1, hk.cell (hA b hb) hi.2⟩
theorem PairsV.ext (h : PairsV w A v l) (hk : Ext w w') : PairsV w' A v l := h.keeps hk fun _ _ => noB _
theorem PairsV.mono (h : PairsV w A v l) (hA : ∀ k, A k → A' k) : PairsV w A' v l := SlV.mono h hA fun b o x hb hi => hi
theorem PairsV.len (h : PairsV w A v l) : ∃ a c, v = .slice a l.length c := by
  rcases h with ⟨a, rfl, rfl⟩ | ⟨b, o, c, rfl, _⟩
  · exact ⟨_, _, rfl⟩
  · exact ⟨_, _, rfl⟩
theorem PairsV.at {a : Option Addr} {n c : Nat} (h : PairsV w A (.slice a n c) l) : n = l.length ∧ ∀ i (hi : i < l.length), ∃ b o, a = some ⟨b, o, none⟩ ∧ l.length ≤ c ∧ A b ∧ PairAt w b (o + i * 2) l[i] := by
  rcases h with ⟨a', h1, rfl⟩ | ⟨b, o, c', h1, h2, h3, h4⟩
  · simp at h1; exact ⟨by simpa using h1.2.1, fun i hi => by simp at hi⟩
  · simp only [Value.slice.injEq] at h1
    obtain ⟨rfl, rfl, rfl⟩ := h1
    exact ⟨rfl, fun i hi => ⟨b, o, rfl, h2, h3, h4 i hi⟩⟩
theorem RefV.keeps (h : RefV w A v N) (hk : Keeps S w w') (hA : ∀ k, A k → ¬ S k) : RefV w' A v N :=
  let ⟨sv, dv, h1, h2, h3⟩ := h
  ⟨sv, dv, h1, h2.keeps hk hA, h3.keeps hk hA⟩
theorem RefV.ext (h : RefV w A v N) (hk : Ext w w') : RefV w' A v N := h.keeps hk fun _ _ => noB _
theorem RefV.mono (h : RefV w A v N) (hA : ∀ k, A k → A' k) : RefV w A' v N :=
  let ⟨sv, dv, h1, h2, h3⟩ := h
  ⟨sv, dv, h1, h2.mono hA, h3.mono hA⟩
end
theorem infoPair : (Try.prog.info? 78).map (fun i => (i.zero, i.size, i.bytes)) = some (some (.agg #[.int .i64 0, .int .i64 0]), 2, 16) := by kernel_rfl

theorem rnew_no (w : World) (e m : Int) (h : e < 1 ∨ 64 < e ∨ m < 1 ∨ 4096 < m) :
    Calls Try.prog 43 #[.int .i64 e, .int .i64 m] w fun r w' => r = .returned (.tuple #[.agg #[.int .i64 0, .int .i64 0, .int .i64 0, .slice none 0 0, .slice none 0 0], .int .i64 2]) ∧ Ext w w' := by
  have hx : e < 1 ∨ (¬ e < 1 ∧ 64 < e) ∨ (¬ e < 1 ∧ ¬ 64 < e ∧ m < 1) ∨ (¬ e < 1 ∧ ¬ 64 < e ∧ ¬ m < 1 ∧ 4096 < m) := by omega
  rcases hx with h | ⟨h', h⟩ | ⟨h', h'', h⟩ | ⟨h', h'', h''', h⟩
  all_goals
    go_enter Try.func43, Try.ntmps43
    go_wp2
    refine bodyPost_ret (v := .tuple #[.agg #[.int .i64 0, .int .i64 0, .int .i64 0, .slice none 0 0, .slice none 0 0], .int .i64 2]) (by simp [results, Try.results43, go_sem]) rfl ⟨rfl, ?_⟩
    repeat (first | exact Keeps.refl _ _ | refine Keeps.alloc ?_ _ | refine Keeps.setNew ?_ _ _ (by simp; done))
theorem rnew_yes (w : World) (e m : Nat) (h1 : 1 ≤ e) (h2 : e ≤ 64) (h3 : 1 ≤ m) (h4 : m ≤ 4096) :
    Calls Try.prog 43 #[.int .i64 (e : Int), .int .i64 (m : Int)] w fun r w' => r = .returned (.tuple #[.agg #[.int .i64 (e : Int), .int .i64 (m : Int), .int .i64 0, .slice none 0 0, .slice none 0 0], .int .i64 0]) ∧ Ext w w' := by
  have g1 : ¬ ((e : Int) < 1) := by omega
  have g2 : ¬ (64 < (e : Int)) := by omega
  have g3 : ¬ ((m : Int) < 1) := by omega
  have g4 : ¬ (4096 < (m : Int)) := by omega
  go_enter Try.func43, Try.ntmps43
  go_wp2
  refine bodyPost_ret (v := .tuple #[.agg #[.int .i64 (e : Int), .int .i64 (m : Int), .int .i64 0, .slice none 0 0, .slice none 0 0], .int .i64 0]) (by simp [results, Try.results43, go_sem]) rfl ⟨rfl, ?_⟩
  repeat (first | exact Keeps.refl _ _ | refine Keeps.alloc ?_ _ | refine Keeps.setNew ?_ _ _ (by simp; done))
theorem rend_any (w : World) (N : NA) (z1 z2 : Value) (i : Int) (hs : ∃ a n c a' n' c', z1 = .slice a n c ∧ z2 = .slice a' n' c') (he : N.ends ≤ 64) :
    Calls Try.prog 52 #[.agg #[.int .i64 (N.ends : Int), .int .i64 (N.most : Int), .int .i64 (N.came : Int), z1, z2], .int .i64 i] w fun e w' => e = .returned (.bool (N.endB i)) ∧ Ext w w' := by
  obtain ⟨a, n, c, a', n', c', rfl, rfl⟩ := hs
  have HD : Hid (N.endB i = (decide (0 ≤ i) && decide (i < N.ends))) := Lib.hid rfl
  have HE : Hid (Ext w (w.alloc (Obj.cells #[.int .i64 (N.ends : Int), .int .i64 (N.most : Int), .int .i64 (N.came : Int), .slice a n c, .slice a' n' c'] 41))) := Lib.hid ((Keeps.refl _ _).alloc _)
  by_cases h0 : 0 ≤ i
  · go_enter Try.func52, Try.ntmps52
    go_wp2_with fail
    go_ret
    exact ⟨by rw [HD.out, decide_eq_true h0]; rfl, HE.out⟩
  · go_enter Try.func52, Try.ntmps52
    go_wp2_with fail
    go_ret
    exact ⟨by rw [HD.out, decide_eq_false (show ¬ 0 ≤ i by omega)]; rfl, HE.out⟩
theorem RefV.args {w : World} {A : Nat → Prop} {v : Value} {N : NA} (h : RefV w A v N) : ∃ a c a' c', v = .agg #[.int .i64 (N.ends : Int), .int .i64 (N.most : Int), .int .i64 (N.came : Int), .slice a N.l.length c, .slice a' N.downs.length c'] ∧ ParsV w A (.slice a N.l.length c) N.l ∧ PairsV w A (.slice a' N.downs.length c') N.downs := by
  obtain ⟨sv, dv, rfl, h1, h2⟩ := h
  obtain ⟨a, c, rfl⟩ := h1.len
  obtain ⟨a', c', rfl⟩ := h2.len
  exact ⟨a, c, a', c', rfl, h1, h2⟩
theorem risdown_any {A : Nat → Prop} (w : World) (v : Value) (N : NA) (f t : Int) (h : RefV w A v N) (hl : N.downs.length ≤ 10000) (hA : ∀ k, A k → k < w.heap.size) :
    Calls Try.prog 22 #[v, .int .i64 f, .int .i64 t] w fun e w' => e = .returned (.bool (decide ((f, t) ∈ N.downs))) ∧ Ext w w' := by
  obtain ⟨a, c, a', c', rfl, hp, hq⟩ := h.args
  have HQ := Lib.hid hq
  have HA := Lib.hid hA
  clear h hp hq hA
  go_enter Try.func22, Try.ntmps22
  go_wp2_with fail
  have bx0 := (Box.new w 41 [.int .i64 (N.ends : Int), .int .i64 (N.most : Int), .int .i64 (N.came : Int), .slice a N.l.length c, .slice a' N.downs.length c'])
  have ex : Ext w (w.alloc (Obj.cells #[.int .i64 (N.ends : Int), .int .i64 (N.most : Int), .int .i64 (N.came : Int), .slice a N.l.length c, .slice a' N.downs.length c'] 41)) := ((Keeps.refl NoB w).alloc _)
  have sx : (w.alloc (Obj.cells #[.int .i64 (N.ends : Int), .int .i64 (N.most : Int), .int .i64 (N.came : Int), .slice a N.l.length c, .slice a' N.downs.length c'] 41)).heap.size = w.heap.size + 1 := by simp
  generalize (w.alloc (Obj.cells #[.int .i64 (N.ends : Int), .int .i64 (N.most : Int), .int .i64 (N.came : Int), .slice a N.l.length c, .slice a' N.downs.length c'] 41)) = w0 at bx0 ex sx ⊢
  have Sx := Lib.hid sx
  clear sx
  obtain ⟨c0, z0⟩ := bx0.reads
  have l0 := bx0.lt
  have HE := Lib.hid ex
  clear ex bx0
  go_loop [7] (fun i => ∃ k : Nat, k ≤ N.downs.length ∧ i = .int .i64 k ∧ Hid ((f, t) ∉ N.downs.take k)) (fun i => N.downs.length - (intOf i).toNat)
  case atStart => exact ⟨0, Nat.zero_le _, rfl, Lib.hid (by simp)⟩
  case round =>
    obtain ⟨k, hk, rfl, hn⟩ := hrel
    by_cases hlt : k < N.downs.length
    · obtain ⟨-, hat⟩ := (HQ.out.ext HE.out).at
      obtain ⟨b, o, rfl, hc, hAb, j1, j2⟩ := hat k hlt
      have hbl := HA.out b hAb
      have hbl0 : b < w0.heap.size := Nat.lt_of_lt_of_le hbl HE.out.size
      have hts := List.take_succ_eq_append_getElem hlt
      have hmem : N.downs[k] ∈ N.downs := List.getElem_mem hlt
      generalize N.downs[k] = q at hts j1 j2 hmem
      obtain ⟨qf, qt⟩ := q
      dsimp only at j1 j2
      have HTS := Lib.hid hts
      have HMM := Lib.hid hmem
      clear hat hts hmem
      have hno : ¬ (qf = f ∧ qt = t) → Hid ((f, t) ∉ N.downs.take (k + 1)) := fun hne => by
        refine Lib.hid ?_
        rw [HTS.out, List.mem_append, List.mem_singleton]
        rintro (h | h)
        · exact hn.out h
        · injection h with h1 h2; exact hne ⟨h1.symm, h2.symm⟩
      by_cases h1 : qf = f
      · subst h1
        by_cases h2 : qt = t
        · subst h2
          clear hno hn
          go_wp2_with fail
          go_ret
          exact ⟨by rw [decide_eq_true HMM.out]; rfl, HE.out⟩
        · have HN := hno (fun h => h2 h.2)
          have hb2 : (qt == t) = false := beq_eq_false_iff_ne.2 h2
          clear hno hn
          go_wp2_with fail
          go_round
          case rel => exact ⟨k + 1, by omega, by go_num, HN⟩
          case measure => simp [intOf]; omega
      · have HN := hno (fun h => h1 h.1)
        have hb1 : (qf == f) = false := beq_eq_false_iff_ne.2 h1
        clear hno hn
        go_wp2_with fail
        go_round
        case rel => exact ⟨k + 1, by omega, by go_num, HN⟩
        case measure => simp [intOf]; omega
    · have hf : decide ((f, t) ∈ N.downs) = false := by
        have := hn.out
        rw [List.take_of_length_le (by omega)] at this
        exact decide_eq_false this
      have HF := Lib.hid hf
      clear hn hf
      go_wp2_with fail
      go_ret
      exact ⟨by rw [HF.out]; rfl, HE.out⟩
end Go.Proofs.Ytdiogipdcpiffaa
