/- The net's own functions, each by its contract: making one, copies of bytes, who is on a link. Conditions: the net lies as 'NetX' says. -/
import Derived.Test.YtdiogipdcpiffaaNet
import Derived.WalkSpells
set_option linter.unusedVariables false
set_option maxHeartbeats 400000
set_option maxRecDepth 10000
namespace Go.Proofs.Ytdiogipdcpiffaa
open Go.RowKit

/-- fresh since w -/
def Fr (w w' : World) : Nat → Prop := fun k => w.heap.size ≤ k ∧ k < w'.heap.size
theorem eq_slice (w : World) (p : Addr) (n c : Nat) : (binOp .eql 30 (.slice (some p) n c) (.slice none 0 0)).run Try.prog w = .ok (.bool false) w := by kernel_rfl
theorem eq_none (w : World) (c : Nat) : (binOp .eql 30 (.slice none 0 c) (.slice none 0 0)).run Try.prog w = .ok (.bool true) w := by kernel_rfl
theorem clone_bytes {A : Nat → Prop} (w : World) (v : Value) (l : List UInt8) (h : Bytes w A v l) (hl : l.length ≤ 70368744177664) :
    Calls Try.prog 38 #[v] w fun e w' => ∃ v', e = .returned v' ∧ Bytes w' (Fr w w') v' l ∧ Ext w w' ∧ WrN w' v' := by
  obtain ⟨a, c, rfl⟩ := h.len
  cases a with
  | none =>
    have h0 : l = [] := by
      rcases h with ⟨a, h1, h2⟩ | ⟨b, o, c', h1, _⟩
      · exact h2
      · cases h1
    subst h0
    clear h
    have hq := eq_none w c
    simp only [List.length_nil]
    go_enter Try.func38, Try.ntmps38
    go_wp2_with fail
    go_ret
    exact ⟨_, rfl, SlV.nil, Keeps.refl _ _, fun b o n c h => by cases h⟩
  | some p =>
    have e0 : Ext w (w.alloc (Obj.cells #[] 5)) := (Keeps.refl _ _).alloc _
    obtain ⟨v1, w1, hr1, hwin1, hk1, ho1⟩ := append_bytes (w.alloc (Obj.cells #[] 5)) w.heap.size (.slice (some ⟨w.heap.size, 0, none⟩) 0 0) [] 30 (Win.empty (Nat.le_refl _) (by simp)) _ l (h.ext e0) (by simp; omega) (by simp)
    simp only [List.nil_append] at hwin1
    have e1 : Ext w w1 := e0.then hk1 (fun i hi h2 => by have := own_eq h2; omega)
    have HW := Lib.hid hwin1
    have HE := Lib.hid e1
    have hq := eq_slice w p l.length c
    clear h e0 hwin1 hk1 ho1 e1
    go_enter Try.func38, Try.ntmps38
    go_wp2_with (at_builtin; refine wpList_append_ran rfl _ _ hr1 rfl rfl rfl ?_)
    go_ret
    exact ⟨_, rfl, Bytes.of_win HW.out, HE.out, WrN.of_win HW.out⟩
def NA.hit (f t : Int) (p : Pc) : Bool := f == -1 || (p.src == f && p.dst == t)
theorem told_any {A : Nat → Prop} (w : World) (v : Value) (p : Pc) (h : ParV w A v p) (hl : p.bytes.length ≤ 70368744177664) :
    Calls Try.prog 46 #[v] w fun e w' => ∃ v', e = .returned v' ∧ (∃ bv, v' = .agg #[.int .i64 (p.num : Int), .int .i64 p.src, .int .i64 p.dst, bv] ∧ Bytes w' (Fr w w') bv p.bytes ∧ WrN w' bv) ∧ Ext w w' := by
  obtain ⟨bv, rfl, hb⟩ := h
  obtain ⟨a, c, rfl⟩ := hb.len
  have HB := Lib.hid hb
  clear hb
  go_enter Try.func46, Try.ntmps46
  go_wp2_with fail
  have bx0 := ((Box.new w 81 [.int .i64 (p.num : Int), .int .i64 p.src, .int .i64 p.dst, .slice a p.bytes.length c]).alloc (Obj.cells #[.int .i64 0, .int .i64 0, .int .i64 0, .slice none 0 0] 50))
  have bx1 := (Box.new (w.alloc (Obj.cells #[.int .i64 (p.num : Int), .int .i64 p.src, .int .i64 p.dst, .slice a p.bytes.length c] 81)) 50 [.int .i64 0, .int .i64 0, .int .i64 0, .slice none 0 0])
  have ex : Ext w ((w.alloc (Obj.cells #[.int .i64 (p.num : Int), .int .i64 p.src, .int .i64 p.dst, .slice a p.bytes.length c] 81)).alloc (Obj.cells #[.int .i64 0, .int .i64 0, .int .i64 0, .slice none 0 0] 50)) := (((Keeps.refl NoB w).alloc _).alloc _)
  have sx : ((w.alloc (Obj.cells #[.int .i64 (p.num : Int), .int .i64 p.src, .int .i64 p.dst, .slice a p.bytes.length c] 81)).alloc (Obj.cells #[.int .i64 0, .int .i64 0, .int .i64 0, .slice none 0 0] 50)).heap.size = w.heap.size + 2 := by simp
  simp only [World.size_alloc] at bx1
  generalize ((w.alloc (Obj.cells #[.int .i64 (p.num : Int), .int .i64 p.src, .int .i64 p.dst, .slice a p.bytes.length c] 81)).alloc (Obj.cells #[.int .i64 0, .int .i64 0, .int .i64 0, .slice none 0 0] 50)) = w0 at bx0 bx1 ex sx ⊢
  have Sx := Lib.hid sx
  clear sx
  have B0 := Lib.hid bx0
  have B1 := Lib.hid bx1
  have HE := Lib.hid ex
  clear ex bx0 bx1
  refine (clone_bytes w0 _ p.bytes (HB.out.ext HE.out) hl).mono ?_
  rintro e w1 ⟨v', rfl, hb', hE, hw⟩
  have HB' := Lib.hid hb'
  have HWr := Lib.hid hw
  obtain ⟨a1, c1, rfl⟩ := hb'.len
  replace B0 := Lib.hid (B0.out.ext hE)
  replace B1 := Lib.hid (B1.out.ext hE)
  replace HE := Lib.hid (HE.out.ext hE)
  have h01 := hE.size
  clear hb' hw hE
  obtain ⟨cB0, zB0⟩ := B0.out.reads
  have lB0 := B0.out.lt
  obtain ⟨cB1, zB1⟩ := B1.out.reads
  have lB1 := B1.out.lt
  have hs := Sx.out
  go_wp2_with fail
  have q1 := ((((B1.out.other ⟨w.heap.size, 3, none⟩ (.slice a1 p.bytes.length c1) (by simp)).set 0 (.int .i64 (p.num : Int))).set 1 (.int .i64 p.src)).set 2 (.int .i64 p.dst)).set 3 (.slice a1 p.bytes.length c1)
  dsimp only [List.set_cons_zero, List.set_cons_succ] at q1
  have hk : Keeps (fun k => k = w.heap.size ∨ k = w.heap.size + 1) w1 (((((w1.setCell ⟨w.heap.size, 3, none⟩ (.slice a1 p.bytes.length c1)).setCell ⟨w.heap.size + 1, 0, none⟩ (.int .i64 (p.num : Int))).setCell ⟨w.heap.size + 1, 1, none⟩ (.int .i64 p.src)).setCell ⟨w.heap.size + 1, 2, none⟩ (.int .i64 p.dst)).setCell ⟨w.heap.size + 1, 3, none⟩ (.slice a1 p.bytes.length c1)) :=
    (((((Keeps.refl _ _).setCell _ _ (.inl (.inl rfl))).setCell _ _ (.inl (.inr rfl))).setCell _ _ (.inl (.inr rfl))).setCell _ _ (.inl (.inr rfl))).setCell _ _ (.inl (.inr rfl))
  have q2 := q1.reads.1
  clear cB0 zB0 lB0 cB1 zB1 lB1
  refine bodyPost_ret (v := .agg #[.int .i64 (p.num : Int), .int .i64 p.src, .int .i64 p.dst, .slice a1 p.bytes.length c1]) (by simp [results, Try.results46, go_sem, q2]) rfl ⟨_, rfl, ⟨_, rfl, ?_, ?_⟩, HE.out.then hk (fun i hi h => by omega)⟩
  · refine (HB'.out.keeps hk (fun k hk h => by have := hk.1; omega)).mono (fun k hk => ⟨by have := hk.1; omega, by have := hk.2; simp; omega⟩)
  · exact WrN.keeps HB'.out HWr.out hk (fun k hk => ⟨fun h => by have := hk.1; omega, hk.2⟩)
theorem isdown_any {F M : Nat → Prop} (w : World) (b : Nat) (N : NA) (f t : Int) (h : NetX w F M b N) (hf : I64 f) (ht : I64 t) :
    Calls Try.prog 21 #[.pointer (some ⟨b, 0, none⟩), .int .i64 f, .int .i64 t] w fun e w' => e = .returned (.bool (decide ((f, t) ∈ N.downs))) ∧ w = w' := by
  obtain ⟨A, m, a, c, hb, -, hs, -⟩ := h.see
  have hd := run_isdown hs hf ht _ rfl
  obtain ⟨c0, z0⟩ := hb.reads
  have l0 := hb.lt
  have HN := Lib.hid h
  clear h hb hs
  go_enter Try.func21, Try.ntmps21
  go_wp2_with fail
  refine (none_net w b N HN.out).mono ?_
  rintro e w' ⟨rfl, rfl⟩
  go_wp2_with fail
  go_ret
  exact ⟨rfl, rfl⟩
theorem on_any (w : World) (f t : Int) :
    Calls Try.prog 42 #[.int .i64 f, .int .i64 t] w fun e w' => e = .returned (.func (.func 62) #[] #[.pointer (some ⟨w.heap.size, 0, none⟩), .pointer (some ⟨w.heap.size + 1, 0, none⟩)]) ∧
      Box w' w.heap.size 3 [.int .i64 f] ∧ Box w' (w.heap.size + 1) 3 [.int .i64 t] ∧ Ext w w' := by
  go_enter Try.func42, Try.ntmps42
  go_wp2_with fail
  have bx0 := ((Box.new w 3 [.int .i64 f]).alloc (Obj.cells #[.int .i64 t] 3))
  have bx1 := (Box.new (w.alloc (Obj.cells #[.int .i64 f] 3)) 3 [.int .i64 t])
  have ex : Ext w ((w.alloc (Obj.cells #[.int .i64 f] 3)).alloc (Obj.cells #[.int .i64 t] 3)) := (((Keeps.refl NoB w).alloc _).alloc _)
  have sx : ((w.alloc (Obj.cells #[.int .i64 f] 3)).alloc (Obj.cells #[.int .i64 t] 3)).heap.size = w.heap.size + 2 := by simp
  simp only [World.size_alloc] at bx1
  generalize ((w.alloc (Obj.cells #[.int .i64 f] 3)).alloc (Obj.cells #[.int .i64 t] 3)) = w0 at bx0 bx1 ex sx ⊢
  have Sx := Lib.hid sx
  clear sx
  have H0 := Lib.hid bx0
  have H1 := Lib.hid bx1
  have HE := Lib.hid ex
  clear bx0 bx1 ex
  go_wp2_with fail
  go_ret
  exact ⟨rfl, H0.out, H1.out, HE.out⟩
/-- who is on a link -/
theorem on1_any {A : Nat → Prop} (w : World) (q r : Nat) (f t : Int) (v : Value) (p : Pc) (h : ParV w A v p) (hq : Box w q 3 [.int .i64 f]) (hr : Box w r 3 [.int .i64 t]) :
    Calls Try.prog 62 #[v, .pointer (some ⟨q, 0, none⟩), .pointer (some ⟨r, 0, none⟩)] w fun e w' => e = .returned (.bool (NA.hit f t p)) ∧ Ext w w' := by
  obtain ⟨bv, rfl, hb⟩ := h
  obtain ⟨a, c, rfl⟩ := hb.len
  clear hb
  obtain ⟨c0, z0⟩ := hq.reads
  obtain ⟨c1, z1⟩ := hr.reads
  have l0 := hq.lt
  have l1 := hr.lt
  have HD : Hid (NA.hit f t p = (f == -1 || (p.src == f && p.dst == t))) := Lib.hid rfl
  have HE : Hid (Ext w (w.alloc (Obj.cells #[.int .i64 (p.num : Int), .int .i64 p.src, .int .i64 p.dst, .slice a p.bytes.length c] 81))) := Lib.hid ((Keeps.refl _ _).alloc _)
  clear hq hr
  cases h1 : (f == -1)
  · cases h2 : (p.src == f)
    · go_enter Try.func62, Try.ntmps62
      go_wp2_with fail
      go_ret
      exact ⟨by rw [HD.out, h1, h2]; rfl, HE.out⟩
    · go_enter Try.func62, Try.ntmps62
      go_wp2_with fail
      go_ret
      exact ⟨by rw [HD.out, h1, h2]; rfl, HE.out⟩
  · go_enter Try.func62, Try.ntmps62
    go_wp2_with fail
    go_ret
    exact ⟨by rw [HD.out, h1]; rfl, HE.out⟩
end Go.Proofs.Ytdiogipdcpiffaa
