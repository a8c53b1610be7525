/- The net's own functions, each by its contract: what is asked first of ends and links. Conditions: the net lies as 'NetX' says. -/
import Derived.Test.YtdiogipdcpiffaaMap
import Derived.Test.YtdiogipdcpiffaaStop
import Derived.Test.YtdiogipdcpiffaaU8B
import Derived.Test.YtdiogipdcpiffaaPlan
set_option linter.unusedVariables false
set_option maxHeartbeats 400000
set_option maxRecDepth 10000
namespace Go.Proofs.Ytdiogipdcpiffaa
open Go.RowKit

structure Pc where
  num : Nat
  src : Int
  dst : Int
  bytes : List UInt8
structure NA where
  ends : Nat
  most : Nat
  came : Nat
  l : List Pc
  downs : List (Int × Int)

def ParV (w : World) (A : Nat → Prop) (v : Value) (p : Pc) : Prop := ∃ bv, v = .agg #[.int .i64 (p.num : Int), .int .i64 p.src, .int .i64 p.dst, bv] ∧ Bytes w A bv p.bytes
def ParEn (w : World) (A : Nat → Prop) (c : List Value) (p : Pc) : Prop := ∃ bv, c = [.int .i64 (p.num : Int), .int .i64 p.src, .int .i64 p.dst, bv] ∧ Bytes w A bv p.bytes
def ParAt (w : World) (A : Nat → Prop) (b o : Nat) (p : Pc) : Prop := ∃ c, ParEn w A c p ∧ c.length = 4 ∧ ∀ j, j < 4 → w.cell? ⟨b, o + j, none⟩ = c[j]?
section
variable {w w' : World} {A A' S : Nat → Prop} {v : Value} {c : List Value} {p : Pc} {b o : Nat}
theorem ParV.keeps (h : ParV w A v p) (hk : Keeps S w w') (hA : ∀ k, A k → ¬ S k) : ParV w' A v p :=
  let ⟨bv, h1, h2⟩ := h
  ⟨bv, h1, h2.keeps hk hA⟩
theorem ParV.ext (h : ParV w A v p) (hk : Ext w w') : ParV w' A v p := h.keeps hk fun _ _ => noB _
theorem ParV.mono (h : ParV w A v p) (hA : ∀ k, A k → A' k) : ParV w A' v p :=
  let ⟨bv, h1, h2⟩ := h
  ⟨bv, h1, h2.mono hA⟩
theorem ParEn.keeps (h : ParEn w A c p) (hk : Keeps S w w') (hA : ∀ k, A k → ¬ S k) : ParEn w' A c p :=
  let ⟨bv, h1, h2⟩ := h
  ⟨bv, h1, h2.keeps hk hA⟩
theorem ParEn.mono (h : ParEn w A c p) (hA : ∀ k, A k → A' k) : ParEn w A' c p :=
  let ⟨bv, h1, h2⟩ := h
  ⟨bv, h1, h2.mono hA⟩
theorem ParEn.one (h : ParEn w A c p) : ∀ u ∈ c, u.oneCell' = true := by
  obtain ⟨bv, rfl, hb⟩ := h
  obtain ⟨a, n, rfl⟩ := hb.len
  intro u hu
  simp at hu
  rcases hu with rfl | rfl | rfl | rfl <;> rfl
theorem ParAt.keeps (h : ParAt w A b o p) (hk : Keeps S w w') (hb : ¬ S b) (hA : ∀ k, A k → ¬ S k) : ParAt w' A b o p := by
  obtain ⟨c, h1, h2, h3⟩ := h
  refine ⟨c, h1.keeps hk hA, h2, fun j hj => ?_⟩
  have hc : c[j]? = some (c[j]'(by omega)) := List.getElem?_eq_getElem _
  have := h3 j hj
  rw [hc] at this ⊢
  exact hk.cell hb this
theorem ParAt.mono (h : ParAt w A b o p) (hA : ∀ k, A k → A' k) : ParAt w A' b o p :=
  let ⟨c, h1, h2, h3⟩ := h
  ⟨c, h1.mono hA, h2, h3⟩
theorem ParAt.reads (h : ParAt w A b o p) : w.cell? ⟨b, o, none⟩ = some (.int .i64 (p.num : Int)) ∧ w.cell? ⟨b, o + 1, none⟩ = some (.int .i64 p.src) ∧ w.cell? ⟨b, o + 2, none⟩ = some (.int .i64 p.dst) ∧ ∃ a n, w.cell? ⟨b, o + 3, none⟩ = some (.slice a p.bytes.length n) ∧ Bytes w A (.slice a p.bytes.length n) p.bytes := by
  obtain ⟨c, ⟨bv, rfl, h1⟩, h2, h3⟩ := h
  obtain ⟨a, n, rfl⟩ := h1.len
  exact ⟨h3 0 (by decide), h3 1 (by decide), h3 2 (by decide), a, n, h3 3 (by decide), h1⟩
end
/-- a slice of parcels -/
def ParsV (w : World) (A : Nat → Prop) (v : Value) (l : List Pc) : Prop := SlV A (ParAt w A) 4 v l
section
variable {w w' : World} {A A' S : Nat → Prop} {v : Value} {l : List Pc}
theorem ParsV.keeps (h : ParsV w A v l) (hk : Keeps S w w') (hA : ∀ k, A k → ¬ S k) : ParsV w' A v l :=
  SlV.mono h (fun _ h => h) fun b o x hb hx => hx.keeps hk (hA b hb) hA
theorem ParsV.ext (h : ParsV w A v l) (hk : Ext w w') : ParsV w' A v l := h.keeps hk fun _ _ => noB _
theorem ParsV.mono (h : ParsV w A v l) (hA : ∀ k, A k → A' k) : ParsV w A' v l := SlV.mono h hA fun b o x hb hx => hx.mono hA
theorem ParsV.len (h : ParsV w A v l) : ∃ a c, v = .slice a l.length c := by
  rcases h with ⟨a, rfl, rfl⟩ | ⟨b, o, c, rfl, _⟩
  · exact ⟨_, _, rfl⟩
  · exact ⟨_, _, rfl⟩
theorem ParsV.at {a : Option Addr} {n c : Nat} (h : ParsV w A (.slice a n c) l) : n = l.length ∧ ∀ i (hi : i < l.length), ∃ b o, a = some ⟨b, o, none⟩ ∧ l.length ≤ c ∧ A b ∧ ParAt w A b (o + i * 4) l[i] := by
  rcases h with ⟨a', h1, rfl⟩ | ⟨b, o, c', h1, h2, h3, h4⟩
  · simp at h1; exact ⟨by simpa using h1.2.1, fun i hi => by simp at hi⟩
  · simp only [Value.slice.injEq] at h1
    obtain ⟨rfl, rfl, rfl⟩ := h1
    exact ⟨rfl, fun i hi => ⟨b, o, rfl, h2, h3, h4 i hi⟩⟩
theorem ParsV.row (h : ParsV w A v l) : ∃ cs, RowOf 4 (ParEn w A) cs l ∧ SrcCells w v l.length cs := SlV.row h fun b o x _ hx => hx
theorem ParsV.of_win {base n : Nat} {cs : List Value} (h : Win w base 4 v n cs) (hn : n = l.length) (hr : RowOf 4 (ParEn w A) cs l) (hA : ∀ k, A k → A' k) (hB : ∀ k, base ≤ k → k < w.heap.size → A' k) : ParsV w A' v l :=
  SlV.mono (SlV.of_win (At := ParAt w A') h hn hr fun b o c x hc hl hcc => ⟨c, hc.mono hA, hl, hcc⟩) (fun k hk => hB k hk.1 hk.2) fun _ _ _ _ h => h
end
theorem infoWay : (Try.prog.info? 81).map (fun i => (i.zero, i.size, i.bytes)) = some (some (.agg #[.int .i64 0, .int .i64 0, .int .i64 0, .slice none 0 0]), 4, 48) := by kernel_rfl
theorem infoPar : (Try.prog.info? 50).map (fun i => (i.zero, i.size, i.bytes)) = some (some (.agg #[.int .i64 0, .int .i64 0, .int .i64 0, .slice none 0 0]), 4, 48) := by kernel_rfl

/-- how the net lies: what it may turn is in F; the bytes of its messages are in old blocks, none of M -/
structure NetAt (w : World) (F M A : Nat → Prop) (b m : Nat) (v : Value) (cs : List Value) (N : NA) : Prop where
  box : Box w b 72 [.int .i64 (N.ends : Int), .int .i64 (N.most : Int), .int .i64 (N.came : Int), v, .map (some m)]
  win : Win w 0 4 v N.l.length cs
  row : RowOf 4 (ParEn w A) cs N.l
  dn : SetAt w m N.downs
  fb : F b
  fm : F m
  bm : b ≠ m
  fv : ∀ g, v.ownBlock = some g → F g ∧ g ≠ b ∧ g ≠ m
  fa : ∀ k, A k → k < w.heap.size ∧ ¬ M k
  fM : ∀ k, F k → M k
  lt : ∀ k, M k → k < w.heap.size
  e1 : 1 ≤ N.ends ∧ N.ends ≤ 64
  m1 : 1 ≤ N.most ∧ N.most ≤ 4096
  ll : N.l.length ≤ N.most
  ok : ∀ p ∈ N.l, p.bytes.length ≤ 8192 ∧ (0 ≤ p.src ∧ p.src < N.ends) ∧ (0 ≤ p.dst ∧ p.dst < N.ends)
def NetX (w : World) (F M : Nat → Prop) (b : Nat) (N : NA) : Prop := ∃ A m v cs, NetAt w F M A b m v cs N
/-- a step of a net: it turns F alone, and what comes to F and M is new -/
structure Step (w w' : World) (F M F' M' : Nat → Prop) : Prop where
  keeps : Keeps F w w'
  inF : ∀ k, F' k → F k ∨ w.heap.size ≤ k
  inM : ∀ k, M' k → M k ∨ w.heap.size ≤ k
  sub : ∀ k, M k → M' k
section
variable {w w' : World} {F F' M M' S : Nat → Prop} {b : Nat} {N : NA}
theorem NetX.keeps (h : NetX w F M b N) (hk : Keeps S w w') (hS : ∀ k, F k → ¬ S k) (hM : ∀ k, k < w.heap.size → S k → M k) : NetX w' F M b N := by
  obtain ⟨A, m, v, cs, h⟩ := h
  exact ⟨A, m, v, cs, { h with box := h.box.keeps hk (hS _ h.fb), win := h.win.keeps hk (fun g hg => hS _ (h.fv g hg).1), row := h.row.mono (fun c p hc => hc.keeps hk fun k hk hs => (h.fa k hk).2 (hM k (h.fa k hk).1 hs)), dn := h.dn.keeps hk (hS _ h.fm), fa := fun k hk' => ⟨Nat.lt_of_lt_of_le (h.fa k hk').1 hk.size, (h.fa k hk').2⟩, lt := fun k hF => Nat.lt_of_lt_of_le (h.lt k hF) hk.size }⟩
theorem NetX.ext (h : NetX w F M b N) (hk : Ext w w') : NetX w' F M b N := h.keeps hk (fun _ _ => noB _) fun _ _ h => (noB _ h).elim
theorem NetX.more {M2 : Nat → Prop} (h : NetX w F M b N) (hk : Ext w w') (hM : ∀ k, M k → M2 k) (h2 : ∀ k, M2 k → M k ∨ (w.heap.size ≤ k ∧ k < w'.heap.size)) : NetX w' F M2 b N := by
  obtain ⟨A, m, v, cs, h⟩ := h
  have hS : ∀ k, ¬ NoB k := noB
  exact ⟨A, m, v, cs, { h with box := h.box.ext hk, win := h.win.ext hk, row := h.row.mono (fun c p hc => hc.keeps hk fun k _ => noB k), dn := h.dn.ext hk, fa := fun k hk' => ⟨Nat.lt_of_lt_of_le (h.fa k hk').1 hk.size, fun hm => (h2 k hm).elim (h.fa k hk').2 (fun hn => by have := (h.fa k hk').1; omega)⟩, fM := fun k hk => hM k (h.fM k hk), lt := fun k hk' => (h2 k hk').elim (fun hm => Nat.lt_of_lt_of_le (h.lt k hm) hk.size) (fun hn => hn.2) }⟩
theorem NetX.less {M2 : Nat → Prop} (h : NetX w F M b N) (hM : ∀ k, M2 k → M k) (hF : ∀ k, F k → M2 k) : NetX w F M2 b N := by
  obtain ⟨A, m, v, cs, h⟩ := h
  exact ⟨A, m, v, cs, { h with fa := fun k hk' => ⟨(h.fa k hk').1, fun hm => (h.fa k hk').2 (hM k hm)⟩, fM := hF, lt := fun k hk' => h.lt k (hM k hk') }⟩
/-- another net's step -/
theorem NetX.beside {F2 F2' : Nat → Prop} (h : NetX w F M b N) (hs : Step w w' F2 M F2' M') (hd : ∀ k, F k → ¬ F2 k) (h2 : ∀ k, F2 k → M k) (hM : ∀ k, M' k → k < w'.heap.size) : NetX w' F M' b N := by
  obtain ⟨A, m, v, cs, h⟩ := h
  exact ⟨A, m, v, cs, { h with box := h.box.keeps hs.keeps (hd _ h.fb), win := h.win.keeps hs.keeps (fun g hg => hd _ (h.fv g hg).1), row := h.row.mono (fun c p hc => hc.keeps hs.keeps fun k hk hk2 => (h.fa k hk).2 (h2 k hk2)), dn := h.dn.keeps hs.keeps (hd _ h.fm), fa := fun k hk' => ⟨Nat.lt_of_lt_of_le (h.fa k hk').1 hs.keeps.size, fun hm => (hs.inM k hm).elim (h.fa k hk').2 (fun hn => by have := (h.fa k hk').1; omega)⟩, fM := fun k hk => hs.sub k (h.fM k hk), lt := hM }⟩
theorem NetX.lt (h : NetX w F M b N) : b < w.heap.size := let ⟨_, _, _, _, h⟩ := h; h.box.lt
theorem NetX.inF (h : NetX w F M b N) : F b := let ⟨_, _, _, _, h⟩ := h; h.fb
theorem NetX.FM (h : NetX w F M b N) : ∀ k, F k → M k := let ⟨_, _, _, _, h⟩ := h; h.fM
theorem NetX.below (h : NetX w F M b N) : ∀ k, M k → k < w.heap.size := let ⟨_, _, _, _, h⟩ := h; h.lt
theorem NetX.e1 (h : NetX w F M b N) : 1 ≤ N.ends ∧ N.ends ≤ 64 := let ⟨_, _, _, _, h⟩ := h; h.e1
theorem NetX.m1 (h : NetX w F M b N) : 1 ≤ N.most ∧ N.most ≤ 4096 := let ⟨_, _, _, _, h⟩ := h; h.m1
theorem NetX.ll (h : NetX w F M b N) : N.l.length ≤ N.most := let ⟨_, _, _, _, h⟩ := h; h.ll
theorem NetX.ok (h : NetX w F M b N) : ∀ p ∈ N.l, p.bytes.length ≤ 8192 ∧ (0 ≤ p.src ∧ p.src < N.ends) ∧ (0 ≤ p.dst ∧ p.dst < N.ends) := let ⟨_, _, _, _, h⟩ := h; h.ok
/-- what a read needs of it; the messages' bytes are in old blocks, none of M -/
theorem NetX.see (h : NetX w F M b N) : ∃ A m a c, Box w b 72 [.int .i64 (N.ends : Int), .int .i64 (N.most : Int), .int .i64 (N.came : Int), .slice a N.l.length c, .map (some m)] ∧ ParsV w A (.slice a N.l.length c) N.l ∧ SetAt w m N.downs ∧ (∀ k, A k → k < w.heap.size) := by
  obtain ⟨A, m, v, cs, h⟩ := h
  obtain ⟨a, c, rfl⟩ := h.win.len
  refine ⟨fun k => k < w.heap.size, m, a, c, h.box, ?_, h.dn, fun k hk => hk⟩
  exact ParsV.of_win h.win rfl h.row (fun k hk => (h.fa k hk).1) (fun k _ hk => hk)
end
/-- no net: nil, or one that was never made -/
def NoNet (w : World) (p : Option Addr) : Prop := p = none ∨ ∃ b, p = some ⟨b, 0, none⟩ ∧ w.cell? ⟨b, 4, none⟩ = some (.map none)
theorem NoNet.ext {w w' : World} {p : Option Addr} (h : NoNet w p) (hk : Ext w w') : NoNet w' p := by
  rcases h with h | ⟨b, h1, h2⟩
  · exact .inl h
  · exact .inr ⟨b, h1, Ext.cell hk h2⟩

def NA.endB (N : NA) (i : Int) : Bool := decide (0 ≤ i) && decide (i < N.ends)
def NA.link (N : NA) (f t : Int) : Bool := (f == -1 && t == -1) || (N.endB f && N.endB t)

theorem eql_map (w : World) (p : Option Nat) : (binOp .eql 70 (.map p) (.map none)).run Try.prog w = .ok (.bool p.isNone) w := by
  cases p <;> kernel_rfl
theorem none_net {F M : Nat → Prop} (w : World) (b : Nat) (N : NA) (h : NetX w F M b N) :
    Calls Try.prog 32 #[.pointer (some ⟨b, 0, none⟩)] w fun e w' => e = .returned (.bool false) ∧ w = w' := by
  obtain ⟨A, m, a, c, hb, -, -, -⟩ := h.see
  obtain ⟨c0, z0⟩ := hb.reads
  have l0 := hb.lt
  clear hb
  have hq := fun w p => eql_map w p
  go_enter Try.func32, Try.ntmps32
  go_wp2_with fail
  go_ret
  exact ⟨rfl, rfl⟩
theorem none_no (w : World) (p : Option Addr) (h : NoNet w p) :
    Calls Try.prog 32 #[.pointer p] w fun e w' => e = .returned (.bool true) ∧ w = w' := by
  rcases h with rfl | ⟨b, rfl, hc⟩
  · go_enter Try.func32, Try.ntmps32
    go_wp2_with fail
    go_ret
    exact ⟨rfl, rfl⟩
  · have hl := World.block_lt_of_cell? _ _ hc
    have hq := fun w p => eql_map w p
    go_enter Try.func32, Try.ntmps32
    go_wp2_with fail
    go_ret
    exact ⟨rfl, rfl⟩
theorem le_dec (a b : Int) : decide (b ≤ a) = !decide (a < b) := by
  by_cases h : a < b
  · rw [decide_eq_true h, decide_eq_false (by omega)]; rfl
  · rw [decide_eq_false h, decide_eq_true (by omega)]; rfl
/-- the closure in 'end' -/
theorem end1_any {F M : Nat → Prop} (w : World) (q b : Nat) (N : NA) (i : Int) (hq : w.cell? ⟨q, 0, none⟩ = some (.pointer (some ⟨b, 0, none⟩))) (h : NetX w F M b N) :
    Calls Try.prog 59 #[.int .i64 i, .pointer (some ⟨q, 0, none⟩)] w fun e w' => e = .returned (.bool (!N.endB i)) ∧ w = w' := by
  obtain ⟨A, m, a, c, hb, -, -, -⟩ := h.see
  obtain ⟨c0, z0⟩ := hb.reads
  have l0 := hb.lt
  have l1 := World.block_lt_of_cell? _ _ hq
  have hen := h.e1
  have HD : Hid (N.endB i = (decide (0 ≤ i) && decide (i < N.ends))) := Lib.hid rfl
  clear hb h
  by_cases h0 : i < 0
  · go_enter Try.func59, Try.ntmps59
    go_wp2_with fail
    go_ret
    exact ⟨by rw [HD.out, decide_eq_false (by omega : ¬ 0 ≤ i)]; rfl, rfl⟩
  · go_enter Try.func59, Try.ntmps59
    go_wp2_with fail
    go_ret
    exact ⟨by rw [HD.out, decide_eq_true (by omega : 0 ≤ i), le_dec]; simp, rfl⟩
theorem idx_end {F M : Nat → Prop} (w : World) (q p b : Nat) (N : NA) (f t : Int) (hq : w.cell? ⟨q, 0, none⟩ = some (.pointer (some ⟨b, 0, none⟩))) (hp : Box w p 3 [.int .i64 f, .int .i64 t]) (h : NetX w F M b N) :
    Calls Try.prog 66 #[.slice (some ⟨p, 0, none⟩) 2 2, .func (.func 59) #[] #[.pointer (some ⟨q, 0, none⟩)]] w fun e w' =>
      e = .returned (.int .i64 (if N.endB f then (if N.endB t then -1 else 1) else 0)) ∧ w = w' := by
  obtain ⟨c0, z0⟩ := hp.reads
  have l0 := hp.lt
  have HN := Lib.hid h
  have HQ := Lib.hid hq
  clear h hq hp
  go_enter Try.func66, Try.ntmps66
  go_wp2_with fail
  refine wp_loop_rounds 3 ?_
  rw [rounds_succ]
  go_wp2_with fail
  refine (end1_any w q b N f HQ.out HN.out).mono ?_
  rintro e w' ⟨rfl, rfl⟩
  cases hf : N.endB f with
  | false =>
    go_wp2_with fail
    all_goals
      go_ret
      exact ⟨rfl, rfl⟩
  | true =>
    go_wp2_with fail
    rw [rounds_succ]
    go_wp2_with fail
    refine (end1_any w q b N t HQ.out HN.out).mono ?_
    rintro e w' ⟨rfl, rfl⟩
    cases ht : N.endB t with
    | false =>
      go_wp2_with fail
      go_ret
      exact ⟨rfl, rfl⟩
    | true =>
      go_wp2_with fail
      rw [rounds_succ]
      go_wp2_with fail
      go_ret
      exact ⟨rfl, rfl⟩
theorem cont_end {F M : Nat → Prop} (w : World) (q p b : Nat) (N : NA) (f t : Int) (hq : w.cell? ⟨q, 0, none⟩ = some (.pointer (some ⟨b, 0, none⟩))) (hp : Box w p 3 [.int .i64 f, .int .i64 t]) (h : NetX w F M b N) :
    Calls Try.prog 58 #[.slice (some ⟨p, 0, none⟩) 2 2, .func (.func 59) #[] #[.pointer (some ⟨q, 0, none⟩)]] w fun e w' =>
      e = .returned (.bool (!(N.endB f && N.endB t))) ∧ w = w' := by
  have HN := Lib.hid h
  have HQ := Lib.hid hq
  have HP := Lib.hid hp
  clear h hq hp
  go_enter Try.func58, Try.ntmps58
  go_wp2_with fail
  refine (idx_end w q p b N f t HQ.out HP.out HN.out).mono ?_
  rintro e w' ⟨rfl, rfl⟩
  cases hf : N.endB f <;> cases ht : N.endB t
  all_goals
    simp only [if_true, Bool.false_eq_true, if_false]
    go_wp2_with fail
    go_ret
    exact ⟨by simp [hf, ht], rfl⟩
theorem end_any {F M : Nat → Prop} (w : World) (p b : Nat) (N : NA) (f t : Int) (hp : Box w p 3 [.int .i64 f, .int .i64 t]) (h : NetX w F M b N) :
    Calls Try.prog 34 #[.pointer (some ⟨b, 0, none⟩), .slice (some ⟨p, 0, none⟩) 2 2] w fun e w' => e = .returned (.bool (N.endB f && N.endB t)) ∧ Ext w w' := by
  have HN := Lib.hid h
  have HP := Lib.hid hp
  clear h hp
  go_enter Try.func34, Try.ntmps34
  go_wp2_with fail
  have bx0 := (Box.new w 23 [.pointer (some ⟨b, 0, none⟩)])
  have ex : Ext w (w.alloc (Obj.cells #[.pointer (some ⟨b, 0, none⟩)] 23)) := ((Keeps.refl NoB w).alloc _)
  have sx : (w.alloc (Obj.cells #[.pointer (some ⟨b, 0, none⟩)] 23)).heap.size = w.heap.size + 1 := by simp
  generalize (w.alloc (Obj.cells #[.pointer (some ⟨b, 0, none⟩)] 23)) = w0 at bx0 ex sx ⊢
  have Sx := Lib.hid sx
  clear sx
  have HE := Lib.hid ex
  have hq := bx0.reads.1 0
  clear ex
  refine (cont_end w0 w.heap.size p b N f t hq (HP.out.ext HE.out) (HN.out.ext HE.out)).mono ?_
  rintro e w' ⟨rfl, rfl⟩
  clear hq bx0
  cases hb : (N.endB f && N.endB t)
  all_goals
    go_wp2_with fail
    go_ret
    exact ⟨by simp [hb], HE.out⟩
theorem link_any {F M : Nat → Prop} (w : World) (b : Nat) (N : NA) (f t : Int) (h : NetX w F M b N) :
    Calls Try.prog 41 #[.pointer (some ⟨b, 0, none⟩), .int .i64 f, .int .i64 t] w fun e w' => e = .returned (.bool (N.link f t)) ∧ Ext w w' := by
  have HN := Lib.hid h
  have HD : Hid (N.link f t = ((f == -1 && t == -1) || (N.endB f && N.endB t))) := Lib.hid rfl
  clear h
  by_cases h1 : f = -1 ∧ t = -1
  · obtain ⟨rfl, rfl⟩ := h1
    go_enter Try.func41, Try.ntmps41
    go_wp2_with fail
    go_ret
    exact ⟨by rw [HD.out]; rfl, Keeps.refl _ _⟩
  · have hd : (f == -1 && t == -1) = false := by
      by_cases hf : f = -1
      · have ht : t ≠ -1 := fun e => h1 ⟨hf, e⟩
        simp [ht]
      · simp [hf]
    rw [hd, Bool.false_or] at HD
    have e0 : Ext w (w.alloc (Obj.cells #[.int .i64 f, .int .i64 t] 3)) := (Keeps.refl _ _).alloc _
    have bk := Box.new w 3 [.int .i64 f, .int .i64 t]
    have HB := Lib.hid bk
    have HE := Lib.hid e0
    clear e0 bk
    have body : ∀ (hfb : Bool), (f == -1) = hfb → Calls Try.prog 41 #[.pointer (some ⟨b, 0, none⟩), .int .i64 f, .int .i64 t] w fun e w' => e = .returned (.bool (N.link f t)) ∧ Ext w w' := by
      intro hfb hfe
      cases hfb with
      | false =>
        go_enter Try.func41, Try.ntmps41
        go_wp2_with fail
        refine (end_any _ w.heap.size b N f t HB.out (HN.out.ext HE.out)).mono ?_
        rintro e w' ⟨rfl, hE⟩
        have HE2 := Lib.hid (HE.out.ext hE)
        clear hE
        go_wp2_with fail
        go_ret
        exact ⟨by rw [HD.out]; rfl, HE2.out⟩
      | true =>
        have hte : (t == -1) = false := by rw [hfe] at hd; simpa using hd
        go_enter Try.func41, Try.ntmps41
        go_wp2_with fail
        refine (end_any _ w.heap.size b N f t HB.out (HN.out.ext HE.out)).mono ?_
        rintro e w' ⟨rfl, hE⟩
        have HE2 := Lib.hid (HE.out.ext hE)
        clear hE
        go_wp2_with fail
        go_ret
        exact ⟨by rw [HD.out]; rfl, HE2.out⟩
    exact body _ rfl
end Go.Proofs.Ytdiogipdcpiffaa
