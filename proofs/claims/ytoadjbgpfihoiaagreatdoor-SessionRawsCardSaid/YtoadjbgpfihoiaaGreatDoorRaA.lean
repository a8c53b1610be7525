/- Texts Base, Bs, Plan, PlanB, one behind the other. Conditions: as each says. -/
import Derived.WalkKit
import Derived.ProofKit
import Derived.Lib.Hide
import Derived.RangeFuncNested
import Derived.Deep.QuietTactic
import Derived.BigQuiet
import Derived.Laws.EntriesVeiled
import Derived.OwnWalkIn
import Derived.TacticsInMore
import Derived.LoopNIn
import Derived.LoopIn
import Derived.Laws.IdiomStrings
import Derived.Deep.RegionHeld3
import Derived.Defers
set_option linter.unusedVariables false
set_option linter.unusedSimpArgs false
set_option maxHeartbeats 8000000
set_option maxRecDepth 100000
namespace Go.Proofs.YtoadjbgpfihoiaaGreatDoor
open Go.RowKit
section
structure Keeps (S : Nat → Prop) (w w' : World) : Prop where
 os : w'.os = w.os
 tape : w'.tape = w.tape
 output : w'.output = w.output
 size : w.heap.size ≤ w'.heap.size
 block : ∀ k, k < w.heap.size → ¬ S k → w'.heap[k]? = w.heap[k]?
def NoB : Nat → Prop := fun _ => False
def OneB (b : Nat) : Nat → Prop := fun k => k = b
abbrev Ext (w w' : World) : Prop := Keeps NoB w w'
theorem noB (k : Nat) : ¬ NoB k := fun h => h
section
variable {S T : Nat → Prop} {w w1 w2 : World}
theorem Keeps.refl (S : Nat → Prop) (w : World) : Keeps S w w := ⟨rfl, rfl, rfl, Nat.le_refl _, fun _ _ _ => rfl⟩
theorem Keeps.trans (h : Keeps S w w1) (k : Keeps S w1 w2) : Keeps S w w2 :=
 ⟨k.os.trans h.os, k.tape.trans h.tape, k.output.trans h.output, Nat.le_trans h.size k.size,
  fun i hi hs => (k.block i (Nat.lt_of_lt_of_le hi h.size) hs).trans (h.block i hi hs)⟩
theorem Keeps.mono (h : Keeps S w w1) (hs : ∀ k, k < w.heap.size → S k → T k) : Keeps T w w1 :=
 ⟨h.os, h.tape, h.output, h.size, fun i hi ht => h.block i hi fun s => ht (hs i hi s)⟩
theorem Keeps.then (h : Keeps T w w1) (k : Keeps S w1 w2) (hs : ∀ i, i < w.heap.size → S i → T i) : Keeps T w w2 :=
 ⟨k.os.trans h.os, k.tape.trans h.tape, k.output.trans h.output, Nat.le_trans h.size k.size,
  fun i hi ht => (k.block i (Nat.lt_of_lt_of_le hi h.size) fun s => ht (hs i hi s)).trans (h.block i hi ht)⟩
theorem Keeps.ext (h : Keeps T w w1) (k : Ext w1 w2) : Keeps T w w2 := h.then k fun _ _ s => (noB _ s).elim
theorem Ext.keeps (h : Ext w w1) : Keeps S w w1 := h.mono fun _ _ s => (noB _ s).elim
theorem Keeps.drew (h : Keeps S w w1) : Keeps S w w1.drew := ⟨h.os, h.tape, h.output, h.size, h.block⟩
theorem Keeps.drewN (h : Keeps S w w1) (n : Nat) : Keeps S w (w1.drewN n) := ⟨h.os, h.tape, h.output, h.size, h.block⟩
theorem Keeps.alloc (h : Keeps S w w1) (o : Obj) : Keeps S w (w1.alloc o) :=
 ⟨h.os, h.tape, h.output, Nat.le_trans h.size (by simp), fun i hi hs => (Below.heap_alloc w1 o i (Nat.lt_of_lt_of_le hi h.size)).trans (h.block i hi hs)⟩
theorem Keeps.setCell (h : Keeps S w w1) (p : Addr) (u : Value) (hp : S p.block ∨ w.heap.size ≤ p.block) : Keeps S w (w1.setCell p u) :=
 ⟨h.os, h.tape, h.output, Nat.le_trans h.size (by simp [World.setCell]), fun i hi hs =>
  (Below.heap_setCell w1 p u i (by rintro rfl; rcases hp with hp | hp; exact hs hp; omega)).trans (h.block i hi hs)⟩
theorem Keeps.setOne {b : Nat} (h : Keeps (OneB b) w w1) (o : Nat) (u : Value) : Keeps (OneB b) w (w1.setCell ⟨b, o, none⟩ u) := h.setCell _ _ (.inl rfl)
theorem Keeps.setNew (h : Keeps S w w1) (p : Addr) (u : Value) (hp : w.heap.size ≤ p.block) : Keeps S w (w1.setCell p u) := h.setCell p u (.inr hp)
theorem Keeps.putObj (h : Keeps S w w1) (b : Nat) (o : Obj) (hp : S b ∨ w.heap.size ≤ b) : Keeps S w (w1.putObj b o) :=
 ⟨h.os, h.tape, h.output, Nat.le_trans h.size (by simp), fun i hi hs => by
  have hne : b ≠ i := by rintro rfl; rcases hp with hp | hp; exact hs hp; omega
  exact (World.putObj_heap_other hne.symm).trans (h.block i hi hs)⟩
theorem Keeps.grown (h : Keeps S w w1) {row : Option Nat} (hg : w1.grownBy w2 row) (hr : ∀ k, row = some k → S k ∨ w.heap.size ≤ k) : Keeps S w w2 :=
 ⟨hg.os.trans h.os, hg.tape.trans h.tape, hg.output.trans h.output, Nat.le_trans h.size hg.size, fun i hi hs =>
  (hg.block i (Nat.lt_of_lt_of_le hi h.size) (fun e => by rcases hr i e.symm with h1 | h1; exact hs h1; omega)).trans (h.block i hi hs)⟩
theorem Keeps.of_grownBy {row : Option Nat} (hg : w.grownBy w1 row) : Keeps (fun k => row = some k) w w1 :=
 ⟨hg.os, hg.tape, hg.output, hg.size, fun i hi hs => hg.block i hi fun e => hs e.symm⟩
theorem Keeps.below {B : Nat} (h : Keeps S w w1) (hB : B ≤ w.heap.size) (hs : ∀ k, k < B → ¬ S k) : Below B w w1 :=
 ⟨h.os, h.tape, h.output, h.size, fun k hk => h.block k (by omega) (hs k hk)⟩
theorem Ext.below (h : Ext w w1) : Below w.heap.size w w1 := Keeps.below h (Nat.le_refl _) fun _ _ => noB _
theorem Ext.of_below (h : Below w.heap.size w w1) : Ext w w1 := ⟨h.os, h.tape, h.output, h.size, fun k hk _ => h.block k hk⟩
theorem Keeps.cell (h : Keeps S w w1) {b o : Nat} {v : Value} (hs : ¬ S b) (hc : w.cell? ⟨b, o, none⟩ = some v) : w1.cell? ⟨b, o, none⟩ = some v :=
 (World.cell?_of_block (w := w) (a := ⟨b, o, none⟩) (h.block b (World.block_lt_of_cell? _ _ hc) hs)).trans hc
theorem Ext.cell (h : Ext w w1) {b o : Nat} {v : Value} (hc : w.cell? ⟨b, o, none⟩ = some v) : w1.cell? ⟨b, o, none⟩ = some v := Keeps.cell h (noB b) hc
theorem Keeps.frozen (h : Keeps S w w1) {b o : Nat} (hs : ¬ S b) (hb : b < w.heap.size) : w1.frozen? ⟨b, o, none⟩ = w.frozen? ⟨b, o, none⟩ :=
 World.frozen?_of_block (w := w) (a := ⟨b, o, none⟩) (h.block b hb hs)
theorem Ext.reads (h : Ext w w1) : (∀ b o, b < w.heap.size → w1.cell? ⟨b, o, none⟩ = w.cell? ⟨b, o, none⟩) ∧ (∀ b o, b < w.heap.size → w1.frozen? ⟨b, o, none⟩ = w.frozen? ⟨b, o, none⟩) :=
 ⟨fun b o hb => World.cell?_of_block (w := w) (a := ⟨b, o, none⟩) (h.block b hb (noB b)), fun b o hb => World.frozen?_of_block (w := w) (a := ⟨b, o, none⟩) (h.block b hb (noB b))⟩
end
theorem Ext.S {w w1 : World} (h : Ext w w1) : Ext w w1 ∧ ∀ b o, b < w.heap.size → w1.cell? ⟨b, o, none⟩ = w.cell? ⟨b, o, none⟩ := ⟨h, h.reads.1⟩
theorem Ext.of_drewN {w w1 : World} (h : ∃ n, w1 = w.drewN n) : Ext w w1 := by
 obtain ⟨n, rfl⟩ := h
 exact (Keeps.refl _ _).drewN n
theorem Ext.drew0 (w : World) : Ext w w.drew := (Keeps.refl _ _).drew
def byV (c : UInt8) : Value := .int .u8 (c.toNat : Int)
def SlV {α : Type} (A : Nat → Prop) (At : Nat → Nat → α → Prop) (sz : Nat) (v : Value) (xs : List α) : Prop :=
 (∃ a, v = .slice a 0 0 ∧ xs = []) ∨
 ∃ b o c, v = .slice (some ⟨b, o, none⟩) xs.length c ∧ xs.length ≤ c ∧ A b ∧ ∀ i (h : i < xs.length), At b (o + i * sz) xs[i]
def ByteAt (w : World) (b o : Nat) (c : UInt8) : Prop := w.cell? ⟨b, o, none⟩ = some (byV c)
def Bytes (w : World) (A : Nat → Prop) (v : Value) (l : List UInt8) : Prop := SlV A (ByteAt w) 1 v l
section
variable {S : Nat → Prop} {w w' : World}
theorem SlV.mono {α : Type} {A A' : Nat → Prop} {At At' : Nat → Nat → α → Prop} {sz : Nat} {v : Value} {xs : List α} (h : SlV A At sz v xs)
 (hA : ∀ b, A b → A' b) (ht : ∀ b o x, A b → At b o x → At' b o x) : SlV A' At' sz v xs := by
 rcases h with h | ⟨b, o, c, h1, h2, h3, h4⟩
 · exact .inl h
 · exact .inr ⟨b, o, c, h1, h2, hA b h3, fun i hi => ht _ _ _ h3 (h4 i hi)⟩
theorem SlV.nil {α : Type} {A : Nat → Prop} {At : Nat → Nat → α → Prop} {sz : Nat} : SlV A At sz (.slice none 0 0) [] := .inl ⟨none, rfl, rfl⟩
theorem Bytes.mono {A A' : Nat → Prop} {v : Value} {l : List UInt8} (h : Bytes w A v l) (hA : ∀ b, A b → A' b) : Bytes w A' v l :=
 SlV.mono h hA fun _ _ _ _ h => h
theorem Bytes.keeps {A : Nat → Prop} {v : Value} {l : List UInt8} (h : Bytes w A v l) (hk : Keeps S w w') (hA : ∀ b, A b → ¬ S b) : Bytes w' A v l :=
 SlV.mono h (fun _ h => h) fun b _ _ ha hb => hk.cell (hA b ha) hb
theorem Bytes.ext {A : Nat → Prop} {v : Value} {l : List UInt8} (h : Bytes w A v l) (hk : Ext w w') : Bytes w' A v l := h.keeps hk fun _ _ => noB _
end
def BytesAt (w : World) (A : Nat → Prop) (b o : Nat) (l : List UInt8) : Prop := ∃ v, w.cell? ⟨b, o, none⟩ = some v ∧ Bytes w A v l
theorem Bytes.len {w : World} {A : Nat → Prop} {v : Value} {l : List UInt8} (h : Bytes w A v l) : ∃ a c, v = .slice a l.length c := by
 rcases h with ⟨a, rfl, rfl⟩ | ⟨b, o, c, rfl, _⟩
 · exact ⟨_, _, rfl⟩
 · exact ⟨_, _, rfl⟩
def SrcCells (w : World) (x : Value) (m : Nat) (news : List Value) : Prop :=
 (x = .slice none 0 0 ∧ m = 0 ∧ news = []) ∨ ∃ ad c, x = .slice (some ad) m c ∧ ∀ j u, news[j]? = some u → w.cell? (ad.add j) = some u
theorem Bytes.src {w : World} {A : Nat → Prop} {v : Value} {l : List UInt8} (h : Bytes w A v l) : SrcCells w v l.length (l.map byV) := by
 rcases h with ⟨a, rfl, rfl⟩ | ⟨b, o, c, rfl, h1, h2, h3⟩
 · cases a with
   | none => exact .inl ⟨rfl, rfl, rfl⟩
   | some ad => exact .inr ⟨ad, 0, rfl, fun j u hu => by simp at hu⟩
 · refine .inr ⟨_, _, rfl, fun j u hu => ?_⟩
   rw [List.getElem?_map] at hu
   obtain ⟨y, hy, rfl⟩ := Option.map_eq_some_iff.1 hu
   obtain ⟨hj, rfl⟩ := List.getElem?_eq_some_iff.1 hy
   have := h3 j hj
   unfold ByteAt at this
   by_cases hj0 : j = 0
   · subst hj0; simpa [Addr.add] using this
   · simpa [Addr.add, hj0] using this
theorem byV_one (l : List UInt8) : ∀ u ∈ l.map byV, u.oneCell' = true := by
 intro u hu
 obtain ⟨c, _, rfl⟩ := List.mem_map.1 hu
 rfl
theorem run_append_own2 {P : Program} (w : World) (base : Nat) (t ty e : TypeId) (i : TypeInfo) (z : Value) (size bytes : Nat) (ht : P.underlying t = some (.slice e)) (hi : P.info? e = some i) (hz : i.zero = some z)
 (hsize : i.size = size) (hby : i.bytes = bytes) (hzs : z.cells.size = size) (hsz : 0 < size)
 (v : Value) (n : Nat) (xs : List Value) (hown : w.ownsRow base e size v n xs)
 (a : Addr) (m c : Nat) (news : List Value) (hl : news.length = m * size) (hnews : ∀ j u, news[j]? = some u → w.cell? (a.add j) = some u) (h1 : ∀ u ∈ news, u.oneCell' = true)
 (h63 : n + m ≤ maxLen) (hbytes : (n + m) * bytes ≤ 140737488355328) (hbase : base ≤ w.heap.size) :
 ∃ v' w', (Builtin.append_ #[t, t] ty #[v, .slice (some a) m c]).run P w = .ok v' w' ∧ w'.ownsRow base e size v' (n + m) (xs ++ news) ∧ w.grownBy w' v.ownBlock ∧
   (v'.ownBlock = v.ownBlock ∨ v'.ownBlock = some w.heap.size) := by
 subst hsize
 subst hby
 have hsmall : n + m ≤ 9223372036854775807 := by simp only [maxLen] at h63; omega
 have hlen : (xs ++ news).length = (n + m) * i.size := by rw [List.length_append, hown.1, hl, Nat.add_mul]
 have grown : ∀ (old : Nat), old < n + m → ∀ (row : Option Nat),
  (w.drew.alloc (.cells (xs.toArray ++ news.toArray ++ Builtin.zeroCells z.cells (grownCap w (n + m) old e - (n + m))) e)).ownsRow base e i.size
   (.slice (some ⟨w.heap.size, 0, none⟩) (n + m) (grownCap w (n + m) old e)) (n + m) (xs ++ news) ∧
  w.grownBy (w.drew.alloc (.cells (xs.toArray ++ news.toArray ++ Builtin.zeroCells z.cells (grownCap w (n + m) old e - (n + m))) e)) row := by
  intro old ho row
  have hge := grownCap_ge w (n + m) old e
  have hcm : grownCap w (n + m) old e ≤ maxLen := grownCap_le_maxLen w (n + m) old e h63
  refine ⟨⟨hlen, .inr ⟨w.heap.size, _, _, rfl, hbase, heap_alloc_new w.drew _, hge, hcm, ?_, ?_⟩⟩, ⟨rfl, rfl, rfl, by simp, fun k hk _ => Below.heap_alloc w.drew _ k hk⟩⟩
  · simp only [Array.size_append, List.size_toArray, size_zeroCells, hzs, hown.1, hl, ← Nat.add_mul]
    congr 1
    omega
  · simp only [Array.toList_append, List.append_assoc]
    rw [← List.append_assoc, ← hlen]
    exact List.take_left
 rcases hown.2 with ⟨rfl, rfl⟩ | ⟨g, cap, cur, rfl, hbg, hg, hnc, hcm, hcs, htake⟩
 · have hx : xs = [] := List.eq_nil_of_length_eq_zero (by simpa using hown.1)
   subst hx
   by_cases hm : m = 0
   · subst hm
     have hn : news = [] := List.eq_nil_of_length_eq_zero (by simpa using hl)
     subst hn
     refine ⟨.slice none 0 0, w, ?_, World.ownsRow_nil w base e i.size, ⟨rfl, rfl, rfl, Nat.le_refl _, fun _ _ _ => rfl⟩, .inl rfl⟩
     simp [Builtin.append_, run_underlying ht, sizeOf, typeInfo, hi, Builtin.lenOf, Builtin.firstCells, loadCells, loadCellsFrom]
   · have hr := run_append_nil (P := P) w t ty e i z ht hi hz a m c news hl hnews (by omega) (by omega) (by have hb := hbytes; simp only [Nat.zero_add] at hb; omega)
     have hgr := grown 0 (by omega) (Value.ownBlock (.slice none 0 0))
     simp only [Nat.zero_add, List.nil_append, Array.empty_append] at hgr ⊢
     exact ⟨_, _, hr, hgr.1, hgr.2, .inr rfl⟩
 · by_cases hroom : n + m ≤ cap
   · have hfit : n * i.size + news.length ≤ cur.size := by rw [hl, hcs, ← Nat.add_mul]; exact Nat.mul_le_mul_right _ hroom
     have hr := run_append_room (P := P) w t ty e i ht hi g n cap cur hg a m c news hl hnews h1 hroom hfit
     refine ⟨_, _, hr, ⟨hlen, .inr ⟨g, cap, _, rfl, hbg, setRow_heap w g cur _ e _ hg, hroom, hcm, ?_, ?_⟩⟩, ⟨rfl, rfl, rfl, by simp, fun k _ hk => setRow_other w g k _ (fun e => hk (by simp [Value.ownBlock, e]))⟩, .inl rfl⟩
     · simp only [List.size_toArray, List.length_append, List.length_take, List.length_drop, Array.length_toList]
       omega
     · rw [htake, ← hlen]
       exact List.take_left
   · have holds : ∀ j u, xs[j]? = some u → w.cell? ((⟨g, 0, none⟩ : Addr).add j) = some u := hown.cells (g := g) rfl
     have hr := run_append_grow (P := P) w t ty e i z ht hi hz ⟨g, 0, none⟩ n cap xs hown.1 holds a m c news hl hnews (by omega) (by omega) (growslice_fits (by omega) hbytes)
     have hgr := grown cap (by omega) (Value.ownBlock (.slice (some ⟨g, 0, none⟩) n cap))
     exact ⟨_, _, hr, hgr.1, hgr.2, .inr rfl⟩
theorem run_append_src {P : Program} (w : World) (base : Nat) (t ty e : TypeId) (i : TypeInfo) (z : Value) (size bytes : Nat) (ht : P.underlying t = some (.slice e)) (hi : P.info? e = some i) (hz : i.zero = some z)
 (hsize : i.size = size) (hby : i.bytes = bytes) (hzs : z.cells.size = size) (hsz : 0 < size)
 (v : Value) (n : Nat) (xs : List Value) (hown : w.ownsRow base e size v n xs) (x : Value) (m : Nat) (news : List Value) (hx : SrcCells w x m news) (hl : news.length = m * size) (h1 : ∀ u ∈ news, u.oneCell' = true)
 (h63 : n + m ≤ maxLen) (hbytes : (n + m) * bytes ≤ 140737488355328) (hbase : base ≤ w.heap.size) :
 ∃ v' w', (Builtin.append_ #[t, t] ty #[v, x]).run P w = .ok v' w' ∧ w'.ownsRow base e size v' (n + m) (xs ++ news) ∧ w.grownBy w' v.ownBlock ∧
   (v'.ownBlock = v.ownBlock ∨ v'.ownBlock = some w.heap.size) := by
 rcases hx with ⟨rfl, rfl, rfl⟩ | ⟨ad, c, rfl, hc⟩
 · exact ⟨v, w, run_append_owned_none (P := P) w base t ty e i size ht hi v n xs hown, by simpa using hown, World.grownBy.refl _ _, .inl rfl⟩
 · exact run_append_own2 (P := P) w base t ty e i z size bytes ht hi hz hsize hby hzs hsz v n xs hown ad m c news hl hc h1 h63 hbytes hbase
theorem Box.src {w : World} {b : Nat} {t : TypeId} {cs : List Value} (h : w.heap[b]? = some (.cells cs.toArray t (0, 0))) (m c : Nat) : SrcCells w (.slice (some ⟨b, 0, none⟩) m c) m cs := by
 refine .inr ⟨_, _, rfl, fun j u hu => ?_⟩
 have : w.cell? ⟨b, j, none⟩ = some u := by simp only [World.cell?, h]; simpa using hu
 by_cases hj : j = 0
 · subst hj; simpa [Addr.add] using this
 · simpa [Addr.add, hj] using this
def Wr (w : World) (v : Value) : Prop := ∀ b o n c, v = .slice (some ⟨b, o, none⟩) n c → ∀ i, w.frozen? ⟨b, i, none⟩ = false
theorem Wr.of_owns {w : World} {base : Nat} {e : TypeId} {sz : Nat} {v : Value} {n : Nat} {xs : List Value} (h : w.ownsRow base e sz v n xs) : Wr w v := by
 rintro b o m c rfl i
 rcases h.2 with ⟨h0, _⟩ | ⟨g, cap, cur, h0, hb, hg, _⟩
 · cases h0
 · cases h0
   simp [World.frozen?, hg]
theorem Bytes.of_owns {w : World} {base : Nat} {e : TypeId} {v : Value} {n : Nat} {l : List UInt8} (h : w.ownsRow base e 1 v n (l.map byV)) : Bytes w (fun b => base ≤ b ∧ b < w.heap.size) v l := by
 have hn : l.length = n := by have := h.1; simpa using this
 have hlt := h.lt
 rcases h.2 with ⟨rfl, h0⟩ | ⟨g, cap, cur, rfl, hb, hg, h1, _⟩
 · exact .inl ⟨none, rfl, List.eq_nil_of_length_eq_zero (by omega)⟩
 · subst hn
   refine .inr ⟨g, 0, cap, rfl, h1, hlt g rfl, fun i hi => ?_⟩
   have := h.cells (g := g) rfl i (byV l[i]) (by simp [hi])
   unfold ByteAt
   by_cases hi0 : i = 0
   · subst hi0; simpa [Addr.add] using this
   · simpa [Addr.add, hi0] using this
theorem cell_set {w : World} {b o : Nat} {u : Value} (h : w.cell? ⟨b, o, none⟩ = some u) (v : Value) (b' o' : Nat) :
 (w.setCell ⟨b, o, none⟩ v).cell? ⟨b', o', none⟩ = if b' = b ∧ o' = o then some v else w.cell? ⟨b', o', none⟩ := by
 by_cases hx : b' = b ∧ o' = o
 · rw [if_pos hx, hx.1, hx.2]; exact World.cell?_setCell_same _ _ _ h
 · rw [if_neg hx]
   refine World.cell?_setCell_other _ _ _ _ ?_
   intro e
   injection e with e1 e2
   exact hx ⟨e1.symm, e2.symm⟩
theorem cell_put (w : World) (b o : Nat) (v : Value) (h : (w.cell? ⟨b, o, none⟩).isSome = true) : (w.setCell ⟨b, o, none⟩ v).cell? ⟨b, o, none⟩ = some v := by
 obtain ⟨u, hu⟩ := Option.isSome_iff_exists.1 h
 rw [cell_set hu]; simp
theorem cell_keep (w : World) (b o : Nat) (v : Value) (b' o' : Nat) (h : b' ≠ b ∨ o' ≠ o) : (w.setCell ⟨b, o, none⟩ v).cell? ⟨b', o', none⟩ = w.cell? ⟨b', o', none⟩ := by
 refine World.cell?_setCell_other _ _ _ _ ?_
 intro e
 injection e with e1 e2
 rcases h with h | h
 · exact h e1.symm
 · exact h e2.symm
theorem has_set {w : World} {b o : Nat} (v : Value) {b' o' : Nat} (h : ∃ u, w.cell? ⟨b', o', none⟩ = some u) : ∃ u, (w.setCell ⟨b, o, none⟩ v).cell? ⟨b', o', none⟩ = some u := by
 obtain ⟨u, hu⟩ := h
 by_cases hx : b' = b ∧ o' = o
 · obtain ⟨rfl, rfl⟩ := hx
   exact ⟨v, World.cell?_setCell_same _ _ _ hu⟩
 · refine ⟨u, ?_⟩
   rw [cell_keep _ _ _ _ _ _ (by omega)]; exact hu
def Box (w : World) (b : Nat) (t : TypeId) (cs : List Value) : Prop := w.heap[b]? = some (.cells cs.toArray t (0, 0))
section
variable {w w' : World} {b : Nat} {t : TypeId} {cs : List Value} {S : Nat → Prop}
theorem Box.new (w : World) (t : TypeId) (cs : List Value) : Box (w.alloc (.cells cs.toArray t)) w.heap.size t cs := World.alloc_heap_new w _
theorem Box.lt (h : Box w b t cs) : b < w.heap.size := (Array.getElem?_eq_some_iff.1 h).1
theorem Box.alloc (h : Box w b t cs) (o : Obj) : Box (w.alloc o) b t cs := (Below.heap_alloc w o b h.lt).trans h
theorem Box.drew (h : Box w b t cs) : Box w.drew b t cs := h
theorem Box.drewN (h : Box w b t cs) (n : Nat) : Box (w.drewN n) b t cs := h
theorem Box.other (h : Box w b t cs) (p : Addr) (u : Value) (hp : b ≠ p.block) : Box (w.setCell p u) b t cs := (Below.heap_setCell w p u b hp).trans h
theorem Box.keeps (h : Box w b t cs) (hk : Keeps S w w') (hs : ¬ S b) : Box w' b t cs := (hk.block b h.lt hs).trans h
theorem Box.ext (h : Box w b t cs) (hk : Ext w w') : Box w' b t cs := h.keeps hk (noB b)
theorem Box.set (h : Box w b t cs) (o : Nat) (u : Value) : Box (w.setCell ⟨b, o, none⟩ u) b t (cs.set o u) := by
 unfold Box at *
 have hl := (Array.getElem?_eq_some_iff.1 h).1
 simp only [World.setCell, Array.getElem?_modify, h]
 simp
theorem Box.reads (h : Box w b t cs) : (∀ o, w.cell? ⟨b, o, none⟩ = cs[o]?) ∧ (∀ o, w.frozen? ⟨b, o, none⟩ = false) := by
 unfold Box at h
 constructor
 · intro o; simp [World.cell?, h]
 · intro o; simp [World.frozen?, h]
end
def RowOf {α : Type} (sz : Nat) (En : List Value → α → Prop) (cs : List Value) (l : List α) : Prop :=
 ∃ css : List (List Value), cs = css.flatten ∧ css.length = l.length ∧ ∀ j (h : j < l.length) (h' : j < css.length), css[j].length = sz ∧ En css[j] l[j]
theorem RowOf.nil {α : Type} {sz : Nat} {En : List Value → α → Prop} : RowOf sz En [] [] := ⟨[], rfl, rfl, fun j h => by simp at h⟩
theorem RowOf.snoc {α : Type} {sz : Nat} {En : List Value → α → Prop} {cs c : List Value} {l : List α} {x : α} (h : RowOf sz En cs l) (hc : c.length = sz) (hx : En c x) : RowOf sz En (cs ++ c) (l ++ [x]) := by
 obtain ⟨css, rfl, h1, h2⟩ := h
 refine ⟨css ++ [c], by simp, by simp [h1], fun j hj hj' => ?_⟩
 by_cases hjl : j < l.length
 · rw [List.getElem_append_left (by omega), List.getElem_append_left hjl]
   exact h2 j hjl (by omega)
 · have : j = l.length := by simp at hj; omega
   subst this
   rw [List.getElem_append_right (by omega), List.getElem_append_right (by omega)]
   simp [h1, hc, hx]
theorem RowOf.mono {α : Type} {sz : Nat} {En En' : List Value → α → Prop} {cs : List Value} {l : List α} (h : RowOf sz En cs l) (hm : ∀ c x, En c x → En' c x) : RowOf sz En' cs l :=
 let ⟨css, h0, h1, h2⟩ := h
 ⟨css, h0, h1, fun j hj hj' => ⟨(h2 j hj hj').1, hm _ _ (h2 j hj hj').2⟩⟩
theorem flat_len_uniform {sz : Nat} : ∀ (css : List (List Value)), (∀ j (h : j < css.length), css[j].length = sz) → css.flatten.length = css.length * sz
 | [], _ => by simp
 | c :: css, h => by
   have h0 := h 0 (by simp)
   have ih := flat_len_uniform css fun j hj => by have := h (j + 1) (by simp; omega); simpa using this
   simp only [List.getElem_cons_zero] at h0
   simp only [List.flatten_cons, List.length_append, ih, h0, List.length_cons, Nat.add_mul]
   omega
theorem flat_get {sz : Nat} : ∀ (css : List (List Value)) (j i : Nat) (hj : j < css.length), (∀ j (h : j < css.length), css[j].length = sz) → i < sz → css.flatten[j * sz + i]? = css[j][i]?
 | [], j, i, hj, _, _ => by simp at hj
 | c :: css, 0, i, hj, h, hi => by
   have h0 := h 0 (by simp)
   simp only [List.getElem_cons_zero] at h0
   simp only [Nat.zero_mul, Nat.zero_add, List.flatten_cons, List.getElem_cons_zero]
   rw [List.getElem?_append_left (by omega)]
 | c :: css, j + 1, i, hj, h, hi => by
   have h0 := h 0 (by simp)
   simp only [List.getElem_cons_zero] at h0
   simp only [List.flatten_cons, List.getElem_cons_succ]
   rw [List.getElem?_append_right (by rw [h0, Nat.add_mul]; omega), show (j + 1) * sz + i - c.length = j * sz + i by rw [h0, Nat.add_mul]; omega]
   exact flat_get css j i (by simpa using hj) (fun j hj => by have := h (j + 1) (by simp; omega); simpa using this) hi
theorem RowOf.length {α : Type} {sz : Nat} {En : List Value → α → Prop} {cs : List Value} {l : List α} (h : RowOf sz En cs l) : cs.length = l.length * sz := by
 obtain ⟨css, rfl, h1, h2⟩ := h
 rw [flat_len_uniform css fun j hj => (h2 j (by omega) hj).1, h1]
theorem RowOf.get {α : Type} {sz : Nat} {En : List Value → α → Prop} {cs : List Value} {l : List α} (h : RowOf sz En cs l) (j : Nat) (hj : j < l.length) :
 ∃ c, c.length = sz ∧ En c l[j] ∧ ∀ i, i < sz → cs[j * sz + i]? = c[i]? := by
 obtain ⟨css, rfl, h1, h2⟩ := h
 have hj' : j < css.length := by omega
 exact ⟨css[j], (h2 j hj hj').1, (h2 j hj hj').2, fun i hi => flat_get css j i hj' (fun j hj => (h2 j (by omega) hj).1) hi⟩
theorem SlV.of_owns {α : Type} {w : World} {base : Nat} {e : TypeId} {sz : Nat} {v : Value} {n : Nat} {cs : List Value} {l : List α} {En : List Value → α → Prop} {At : Nat → Nat → α → Prop}
 (h : w.ownsRow base e sz v n cs) (hn : n = l.length) (hr : RowOf sz En cs l) (hat : ∀ b o c x, En c x → c.length = sz → (∀ i, i < sz → w.cell? ⟨b, o + i, none⟩ = c[i]?) → At b o x) :
 SlV (fun b => base ≤ b ∧ b < w.heap.size) At sz v l := by
 subst hn
 have hlt := h.lt
 rcases h.2 with ⟨rfl, h0⟩ | ⟨g, cap, cur, rfl, hb, hg, h1, _⟩
 · exact .inl ⟨none, rfl, List.eq_nil_of_length_eq_zero (by omega)⟩
 · refine .inr ⟨g, 0, cap, rfl, h1, hlt g rfl, fun j hj => ?_⟩
   obtain ⟨c, hc1, hc2, hc3⟩ := hr.get j hj
   refine hat _ _ c _ hc2 hc1 fun i hi => ?_
   have hcell := h.cellAt (j * sz + i) (by
    have : (j + 1) * sz ≤ l.length * sz := Nat.mul_le_mul_right _ hj
    rw [Nat.add_mul] at this
    omega)
   rw [Nat.zero_add, hcell]
   exact hc3 i hi
section
variable {P : Program} {ops : Array Oper} {rest : List Oper} {o : Oper} {a : Act} {w w' : World} {Q : Exit → Act → World → Prop} {F : Fence} {n : Nat}
theorem wpList_ran {v : Value} (hg : o.guard = none) (hr : (execOp a.eval o).run P w = .ok (.value v) w') (h : wpList P ops Q rest (a.put o.dst v) w') : wpList P ops Q (o :: rest) a w := by
 refine wpList_plain hg fun K hK => ?_
 unfold Oper.wp
 rw [hr]
 exact hK _ _ h
theorem wpList_append_ran {t u : TypeId} {vs vx v : Value} (hg : o.guard = none) (s x : Operand) (hr : (Builtin.append_ #[t, u] o.type #[vs, vx]).run P w = .ok v w')
 (ho : o.op = .call { callee := .builtin .append, args := #[s, x], argTypes := #[t, u] }) (hs : a.eval s = vs) (hx : a.eval x = vx)
 (h : wpList P ops Q rest (a.put o.dst v) w') : wpList P ops Q (o :: rest) a w :=
 wpList_ran hg (by simp [execOp, ho, resolve, invoke, builtin, hs, hx, hr, Result.andThen]) h
theorem oper_append_ran {K : Act → World → Prop} {t u : TypeId} {vs vx v : Value} (s x : Operand) (hr : (Builtin.append_ #[t, u] o.type #[vs, vx]).run P w = .ok v w')
 (ho : o.op = .call { callee := .builtin .append, args := #[s, x], argTypes := #[t, u] }) (hs : a.eval s = vs) (hx : a.eval x = vx) (h : K (a.put o.dst v) w') : o.wp P a w K Q := by
 unfold Oper.wp
 have : (execOp a.eval o).run P w = .ok (.value v) w' := by simp [execOp, ho, resolve, invoke, builtin, hs, hx, hr, Result.andThen]
 rw [this]
 exact h
end
end
section
def bs (l : List UInt8) : ByteArray := ⟨l.toArray⟩
theorem bs_size (l : List UInt8) : (bs l).size = l.length := by simp [bs, ByteArray.size]
theorem bs_data (l : List UInt8) : (bs l).data.toList = l := by simp [bs]
theorem bs_of (s : ByteArray) : bs s.data.toList = s := by simp [bs]
theorem str_loop (b : ByteArray) : ∀ (n i : Nat) (r : List UInt8), b.size - i = n → ByteArray.toList.loop b i r = r.reverse ++ b.data.toList.drop i
 | 0, i, r, h => by
   unfold ByteArray.toList.loop
   have hs : b.size = b.data.toList.length := by rw [Array.length_toList]; rfl
   rw [if_neg (by omega), List.drop_of_length_le (by omega)]
   simp
 | n + 1, i, r, h => by
   unfold ByteArray.toList.loop
   have hs : b.size = b.data.toList.length := by rw [Array.length_toList]; rfl
   rw [if_pos (by omega), str_loop b n (i + 1) _ (by omega)]
   have hi : i < b.data.toList.length := by omega
   rw [List.drop_eq_getElem_cons hi]
   have : b.get! i = b.data.toList[i] := by
    simp [ByteArray.get!]
    rw [getElem!_pos]
   simp [this]
theorem bs_toList (l : List UInt8) : (bs l).toList = l := by
 unfold ByteArray.toList
 rw [str_loop _ _ 0 [] rfl]; simp [bs]
end
section
def anc (md : Region.Mode) (ops : Array Oper) : Nat → Nat → Nat → Bool
 | 0, _, _ => false
 | n + 1, j, i => ((ops[j]?).map fun o => o.after.any fun e => Region.binds md e && (e.on == i || anc md ops n e.on i)).getD false
def needs (md : Region.Mode) (ops : Array Oper) (ls : List Nat) (j : Nat) : Bool := ls.any fun i => i != j && !anc md ops ops.size j i
section
variable {P : Program} {ops : Array Oper} {Q : Exit → Act → World → Prop} {md : Region.Mode} {C : World → Prop} {ls es : List Nat}
def Closed (md : Region.Mode) (ops : Array Oper) (listed : Array Bool) : Prop :=
 ∀ j o, ops[j]? = some o → listed.getD j false = true → ∀ e ∈ o.after, Region.binds md e = true → listed.getD e.on false = true
theorem anc_listed {listed : Array Bool} (hc : Closed md ops listed) : ∀ (n j i : Nat) (o : Oper), ops[j]? = some o → (∀ e ∈ o.after, Region.binds md e = true → listed.getD e.on false = true) → anc md ops n j i = true → listed.getD i false = true
 | 0, _, _, _, _, _, h => by cases h
 | n + 1, j, i, o, ho, hd, h => by
   simp only [anc, ho, Option.map_some, Option.getD_some, Array.any_eq_true'] at h
   obtain ⟨e, he, h2⟩ := h
   simp only [Bool.and_eq_true, Bool.or_eq_true, beq_iff_eq] at h2
   obtain ⟨hb, h3⟩ := h2
   have hl := hd e he hb
   rcases h3 with h3 | h3
   · rw [← h3]; exact hl
   · cases ho' : ops[e.on]? with
     | none => cases n <;> simp [anc, ho'] at h3
     | some o' => exact anc_listed hc n e.on i o' ho' (hc e.on o' ho' hl) h3
theorem needs_of_ready {listed : Array Bool} (hc : Closed md ops listed) {i j : Nat} (hi : i ∈ ls) (hj : j ∈ Region.ready md ops listed) (hne : j ≠ i) (hl : listed.getD i true = false) : needs md ops ls j = true := by
 obtain ⟨_, o, ho, hall⟩ := mem_ready.1 hj
 unfold needs
 rw [List.any_eq_true]
 refine ⟨i, hi, ?_⟩
 simp only [Bool.and_eq_true, bne_iff_ne, ne_eq, Bool.not_eq_true', hne.symm, not_false_eq_true, true_and]
 cases ha : anc md ops ops.size j i with
 | false => rfl
 | true =>
   have h1 := anc_listed hc _ j i o ho hall ha
   have hlt : i < listed.size := by
    rcases Nat.lt_or_ge i listed.size with h' | h'
    · exact h'
    · simp [Array.getElem?_eq_none h'] at h1
   simp [hlt] at h1 hl
   rw [hl] at h1; cases h1
theorem Closed.list {listed : Array Bool} (hc : Closed md ops listed) {j : Nat} (hj : j ∈ Region.ready md ops listed) : Closed md ops (listed.setIfInBounds j true) := by
 intro k o ho hk e he hb
 obtain ⟨_, oj, hoj, hall⟩ := mem_ready.1 hj
 by_cases hkj : j = k
 · subst hkj
   rw [hoj] at ho; cases ho
   exact getD_set_true (hall e he hb)
 · rw [getD_set_ne false hkj] at hk
   exact getD_set_true (hc k o ho hk e he hb)
def wpAnyT (P : Program) (md : Region.Mode) (ops : Array Oper) (Q : Exit → Act → World → Prop) (C : World → Prop) (ls es : List Nat) : Nat → Array Bool → Act → World → Prop
 | 0, listed, a, w => Region.ready md ops listed = [] ∧ Q .normal a w
 | fuel + 1, listed, a, w =>
   (Region.ready md ops listed = [] → Q .normal a w) ∧
   ∀ i ∈ Region.ready md ops listed, wpOp P ops Q i (fun a' w' => ((es.contains i = false → w' = w) ∧ (needs md ops ls i = true → C w → C w')) ∧ wpAnyT P md ops Q C ls es fuel (listed.setIfInBounds i true) a' w') a w
theorem wpAny_of_T : ∀ (fuel : Nat) (listed : Array Bool) (a : Act) (w : World), wpAnyT P md ops Q C ls es fuel listed a w → wpAny P md ops Q fuel listed a w
 | 0, _, _, _, h => h
 | fuel + 1, _, _, _, h => ⟨h.1, fun i hi => wpOp_mono (fun a' w' h' => wpAny_of_T fuel _ a' w' h'.2) (h.2 i hi)⟩
theorem wpAnyT_first {S : World → Prop} {i : Nat} {oi : Oper} {v : Value} (hi : ops[i]? = some oi) (hsel : ∀ (j : Nat) (o : Oper) cs b, ops[j]? = some o → o.op ≠ .select cs b)
 (hQ : ∀ c a w, Q (.panic c) (a.put oi.dst v) w → Q (.panic c) a w) (hS : ∀ w, (i ∈ ls → C w) → S w) :
 ∀ (fuel : Nat) (listed : Array Bool) (a : Act) (w : World), Closed md ops listed →
   (∀ j oj, ops[j]? = some oj → j ≠ i → listed.getD j true = false → (∀ e ∈ oj.after, Region.binds md e = true → e.on ≠ i) → oi.apart ops oj = true) →
   i ∈ Region.ready md ops listed → YieldsIf P ops S oi v a → (i ∈ ls → C w) →
   wpAnyT P md ops Q C ls es fuel (listed.setIfInBounds i true) (a.put oi.dst v) w → wpAnyT P md ops Q C ls es (fuel + 1) listed a w := by
 intro fuel
 induction fuel with
 | zero =>
   intro listed a w hc _ hr hy hC H
   refine ⟨fun h => (by rw [h] at hr; cases hr), fun j hj => ?_⟩
   by_cases hji : j = i
   · subst hji; exact hy.wpOp hi (hS w hC) ⟨⟨fun _ => rfl, fun _ h => h⟩, H⟩
   · have := ready_mono hj hji
     rw [H.1] at this
     cases this
 | succ fuel ih =>
   intro listed a w hc hfree hr hy hC H
   refine ⟨fun h => (by rw [h] at hr; cases hr), fun j hj => ?_⟩
   by_cases hji : j = i
   · subst hji; exact hy.wpOp hi (hS w hC) ⟨⟨fun _ => rfl, fun _ h => h⟩, H⟩
   · have h1 := H.2 j (ready_mono hj hji)
     obtain ⟨hjun, oj, hoj, hall⟩ := mem_ready.1 hj
     have hiun := (mem_ready.1 hr).1
     have hnot : ∀ e ∈ oj.after, Region.binds md e = true → e.on ≠ i := fun e he hb heq => by
      have h1 := hall e he hb
      have h0 := hiun
      rw [heq] at h1
      rcases Nat.lt_or_ge i listed.size with h' | h'
      · simp [h'] at h0 h1; rw [h0] at h1; cases h1
      · simp [Array.getElem?_eq_none h'] at h1
     have h2 := wpOp_putIf hoj (hfree j oj hoj hji hjun hnot) (fun cs b => hsel i oi cs b hi) (fun cs b => hsel j oj cs b hoj) hQ hy h1
     have hfree' : ∀ k ok, ops[k]? = some ok → k ≠ i → (listed.setIfInBounds j true).getD k true = false →
      (∀ e ∈ ok.after, Region.binds md e = true → e.on ≠ i) → oi.apart ops ok = true := fun k ok hk hki hun hno => by
      refine hfree k ok hk hki ?_ hno
      by_cases hjk : j = k
      · subst hjk; exact hjun
      · rw [getD_set_ne true hjk] at hun; exact hun
     refine wpOp_mono (fun a' w' h3 => ?_) h2
     obtain ⟨hy', hC', hT'⟩ := h3
     refine ⟨hC', ?_⟩
     refine ih (listed.setIfInBounds j true) a' w' (hc.list hj) hfree' (ready_mono hr (Ne.symm hji)) hy' (fun hls => hC'.2 (needs_of_ready hc hls hj hji hiun) (hC hls)) ?_
     rw [Array.setIfInBounds_comm _ _ hji]
     exact hT'
theorem wpAnyT_exact {i : Nat} {oi : Oper} {v : Value} {w : World} (hi : ops[i]? = some oi) (hsel : ∀ (j : Nat) (o : Oper) cs b, ops[j]? = some o → o.op ≠ .select cs b)
 (hQ : ∀ c a w, Q (.panic c) (a.put oi.dst v) w → Q (.panic c) a w) (hes : ∀ j ∈ es, anc md ops ops.size j i = true) :
 ∀ (fuel : Nat) (listed : Array Bool) (a : Act), Closed md ops listed →
   (∀ j oj, ops[j]? = some oj → j ≠ i → listed.getD j true = false → (∀ e ∈ oj.after, Region.binds md e = true → e.on ≠ i) → oi.apart ops oj = true) →
   i ∈ Region.ready md ops listed → YieldsIf P ops (fun x => x = w) oi v a →
   wpAnyT P md ops Q C ls es fuel (listed.setIfInBounds i true) (a.put oi.dst v) w → wpAnyT P md ops Q C ls es (fuel + 1) listed a w := by
 intro fuel
 induction fuel with
 | zero =>
   intro listed a hc _ hr hy H
   refine ⟨fun h => (by rw [h] at hr; cases hr), fun j hj => ?_⟩
   by_cases hji : j = i
   · subst hji; exact hy.wpOp hi rfl ⟨⟨fun _ => rfl, fun _ h => h⟩, H⟩
   · have := ready_mono hj hji
     rw [H.1] at this
     cases this
 | succ fuel ih =>
   intro listed a hc hfree hr hy H
   refine ⟨fun h => (by rw [h] at hr; cases hr), fun j hj => ?_⟩
   by_cases hji : j = i
   · subst hji; exact hy.wpOp hi rfl ⟨⟨fun _ => rfl, fun _ h => h⟩, H⟩
   · have h1 := H.2 j (ready_mono hj hji)
     obtain ⟨hjun, oj, hoj, hall⟩ := mem_ready.1 hj
     have hiun := (mem_ready.1 hr).1
     have hnot : ∀ e ∈ oj.after, Region.binds md e = true → e.on ≠ i := fun e he hb heq => by
      have h1 := hall e he hb
      have h0 := hiun
      rw [heq] at h1
      rcases Nat.lt_or_ge i listed.size with h' | h'
      · simp [h'] at h0 h1; rw [h0] at h1; cases h1
      · simp [Array.getElem?_eq_none h'] at h1
     have hje : es.contains j = false := by
      cases hje : es.contains j with
      | false => rfl
      | true =>
        have := anc_listed hc _ j i oj hoj hall (hes j (by simpa using hje))
        have hlt : i < listed.size := by
         rcases Nat.lt_or_ge i listed.size with h' | h'
         · exact h'
         · simp [Array.getElem?_eq_none h'] at this
        simp [hlt] at this hiun
        rw [hiun] at this; cases this
     have h2 := wpOp_putIf hoj (hfree j oj hoj hji hjun hnot) (fun cs b => hsel i oi cs b hi) (fun cs b => hsel j oj cs b hoj) hQ hy h1
     have hfree' : ∀ k ok, ops[k]? = some ok → k ≠ i → (listed.setIfInBounds j true).getD k true = false →
      (∀ e ∈ ok.after, Region.binds md e = true → e.on ≠ i) → oi.apart ops ok = true := fun k ok hk hki hun hno => by
      refine hfree k ok hk hki ?_ hno
      by_cases hjk : j = k
      · subst hjk; exact hjun
      · rw [getD_set_ne true hjk] at hun; exact hun
     refine wpOp_mono (fun a' w' h3 => ?_) h2
     obtain ⟨hy', hC', hT'⟩ := h3
     have hw := hC'.1 hje
     subst hw
     refine ⟨hC', ih (listed.setIfInBounds j true) a' (hc.list hj) hfree' (ready_mono hr (Ne.symm hji)) hy' ?_⟩
     rw [Array.setIfInBounds_comm _ _ hji]
     exact hT'
def forcedOK (md : Region.Mode) (ops : Array Oper) (ls es : List Nat) : Array Bool → List Nat → Bool
 | listed, i :: tl => Region.ready md ops listed == [i] && !needs md ops ls i && es.contains i && forcedOK md ops ls es (listed.setIfInBounds i true) tl
 | listed, [] => Region.ready md ops listed == []
def planOK (md : Region.Mode) (ops : Array Oper) (ls es : List Nat) (tl : List Nat) : Array Bool → List (Nat × Nat) → Bool
 | listed, (k, i) :: r =>
   (if k == 2 then Region.ready md ops listed == [i] && es.contains i else Region.free md ops listed i && (Region.ready md ops listed).contains i && (k == 0 || (k == 1 && ls.contains i) || (k == 3 && es.all fun j => anc md ops ops.size j i))) && planOK md ops ls es tl (listed.setIfInBounds i true) r
 | listed, [] => forcedOK md ops ls es listed tl
def quietV (P : Program) (o : Oper) (a : Act) (S : World → Prop) (K : Act → Prop) : Prop := ∃ v, (∀ w, S w → (execOp a.eval o).run P w = .ok (.value v) w) ∧ K (a.put o.dst v)
def wpPlan (P : Program) (ops : Array Oper) (Q : Exit → Act → World → Prop) (C : World → Prop) (tail : Act → World → Prop) : List (Nat × Oper) → Act → World → Prop
 | [], a, w => tail a w
 | (k, o) :: r, a, w =>
   if Region.wanted o (yielded ops a.tmps) then
    (if k = 0 then quietV P o a (fun _ => True) (fun a' => wpPlan P ops Q C tail r a' w)
     else if k = 1 then quietV P o a C (fun a' => wpPlan P ops Q C tail r a' w)
     else if k = 3 then quietV P o a (fun x => x = w) (fun a' => wpPlan P ops Q C tail r a' w)
     else o.wp P a w (fun a' w' => C w' ∧ wpPlan P ops Q C tail r a' w') Q)
   else wpPlan P ops Q C tail r (a.put o.dst undef) w
def planL (ops : Array Oper) : List (Nat × Nat) → List (Nat × Oper)
 | [] => []
 | (k, i) :: r => match ops[i]? with
   | some o => (k, o) :: planL ops r
   | none => planL ops r
theorem tail_sound : ∀ (tl : List Nat) (tops : List Oper) (fuel : Nat) (listed : Array Bool) (a : Act) (w : World), tl.map (ops[·]?) = tops.map some → forcedOK md ops ls es listed tl = true → tl.length = fuel →
 wpList P ops Q tops a w → wpAnyT P md ops Q C ls es fuel listed a w
 | [], tops, 0, listed, a, w, hm, hp, _, h => by
   obtain rfl : tops = [] := by cases tops with | nil => rfl | cons _ _ => simp at hm
   exact ⟨by simpa [forcedOK] using hp, h⟩
 | i :: tl, [], _, _, _, _, hm, _, _, _ => by simp at hm
 | i :: tl, o :: tops, fuel + 1, listed, a, w, hm, hp, hf, h => by
   simp only [List.map_cons, List.cons.injEq] at hm
   simp only [forcedOK, Bool.and_eq_true, beq_iff_eq, Bool.not_eq_true'] at hp
   obtain ⟨⟨⟨hr, hn⟩, hei⟩, hp⟩ := hp
   refine ⟨fun h0 => (by rw [hr] at h0; cases h0), fun j hj => ?_⟩
   rw [hr] at hj
   obtain rfl : j = i := by simpa using hj
   unfold wpOp
   simp only [hm.1]
   unfold wpList at h
   have ih := fun a' w' => tail_sound tl tops fuel (listed.setIfInBounds j true) a' w' hm.2 hp (by simpa using hf)
   split
   · rename_i hw
     rw [if_pos hw] at h
     exact h.imp (Oper.wp_mono fun a' w' h' => ⟨⟨fun he => (by rw [hei] at he; cases he), fun hn' => (by rw [hn] at hn'; cases hn')⟩, ih a' w' h'⟩) id
   · rename_i hw
     rw [if_neg hw] at h
     exact ⟨⟨fun _ => by first | rfl | trivial, fun _ h => h⟩, ih _ _ h⟩
theorem quietV_yields {S : World → Prop} {o : Oper} {a : Act} {K : Act → Prop} (hw : Region.wanted o (yielded ops a.tmps) = true) (h : quietV P o a S K) : ∃ v, YieldsIf P ops S o v a ∧ K (a.put o.dst v) :=
 let ⟨v, h1, h2⟩ := h
 ⟨v, .inl ⟨hw, h1⟩, h2⟩
theorem plan_sound (hs : Region.noSelect ops = true) (hQ : ∀ c a w (o : Oper) v, o ∈ ops → Q (.panic c) (Act.put a o.dst v) w → Q (.panic c) a w) (tl : List Nat) (tops : List Oper) (hm : tl.map (ops[·]?) = tops.map some) :
 ∀ (pl : List (Nat × Nat)) (fuel : Nat) (listed : Array Bool) (a : Act) (w : World), planOK md ops ls es tl listed pl = true → pl.length + tl.length = fuel → Closed md ops listed → C w →
 wpPlan P ops Q C (wpList P ops Q tops) (planL ops pl) a w → wpAnyT P md ops Q C ls es fuel listed a w
 | [], fuel, listed, a, w, hp, hf, _, _, h => tail_sound tl tops fuel listed a w hm (by simpa [planOK] using hp) (by simpa using hf) h
 | (k, i) :: r, 0, _, _, _, _, hf, _, _, _ => by simp at hf
 | (k, i) :: r, fuel + 1, listed, a, w, hp, hf, hc, hC, h => by
   simp only [planOK, Bool.and_eq_true] at hp
   obtain ⟨hk, hp⟩ := hp
   have hf' : r.length + tl.length = fuel := by simp at hf; omega
   have hready : i ∈ Region.ready md ops listed := by
    split at hk
    · have : Region.ready md ops listed = [i] := by
       simp only [Bool.and_eq_true, beq_iff_eq] at hk
       exact hk.1
      rw [this]; simp
    · simp only [Bool.and_eq_true] at hk
      simpa using hk.1.2
   obtain ⟨_, o, ho, _⟩ := mem_ready.1 hready
   simp only [planL, ho] at h
   unfold wpPlan at h
   have ih := fun a' w' hC' h' => plan_sound hs hQ tl tops hm r fuel (listed.setIfInBounds i true) a' w' hp hf' (hc.list hready) hC' h'
   by_cases k2 : k = 2
   · -- what does something: it is alone
     simp only [k2, beq_self_eq_true, if_true, Bool.and_eq_true, beq_iff_eq] at hk
     obtain ⟨hk, hei⟩ := hk
     refine ⟨fun h0 => (by rw [hk] at h0; cases h0), fun j hj => ?_⟩
     rw [hk] at hj
     obtain rfl : j = i := by simpa using hj
     unfold wpOp
     simp only [ho]
     split
     · rename_i hw
       rw [if_pos hw] at h
       rw [k2, if_neg (by decide), if_neg (by decide), if_neg (by decide)] at h
       exact .inl (Oper.wp_mono (fun a' w' h' => ⟨⟨fun he => (by rw [hei] at he; cases he), fun _ _ => h'.1⟩, ih a' w' h'.1 h'.2⟩) h)
     · rename_i hw
       rw [if_neg hw] at h
       exact ⟨⟨fun _ => by first | rfl | trivial, fun _ h => h⟩, ih _ _ hC h⟩
   · have hkf : (k == 2) = false := by simpa using k2
     simp only [hkf, Bool.false_eq_true, if_false, Bool.and_eq_true] at hk
     obtain ⟨⟨hfree, _⟩, hls⟩ := hk
     have fin : ∀ (S : World → Prop) (v : Value), (∀ w, (i ∈ ls → C w) → S w) → YieldsIf P ops S o v a → wpPlan P ops Q C (wpList P ops Q tops) (planL ops r) (a.put o.dst v) w → wpAnyT P md ops Q C ls es (fuel + 1) listed a w :=
      fun S v hS hy h' => wpAnyT_first ho (Region.noSelect_spec hs) (fun c a w => hQ c a w o v (Array.mem_of_getElem? ho)) hS fuel listed a w hc (Region.free_spec ho hfree) hready hy (fun _ => hC) (ih _ _ hC h')
     by_cases hw : Region.wanted o (yielded ops a.tmps) = true
     · rw [if_pos hw] at h
       by_cases k0 : k = 0
       · rw [if_pos k0] at h
         obtain ⟨v, hy, h'⟩ := quietV_yields hw h
         exact fin _ v (fun _ _ => trivial) hy h'
       · rw [if_neg k0] at h
         have k0' : (k == 0) = false := by simpa using k0
         simp only [k0', Bool.false_or, Bool.or_eq_true, Bool.and_eq_true, beq_iff_eq] at hls
         rcases hls with hls | hls
         · have hl : i ∈ ls := by simpa using hls.2
           rw [if_pos hls.1] at h
           obtain ⟨v, hy, h'⟩ := quietV_yields hw h
           exact fin _ v (fun w h => h hl) hy h'
         · rw [hls.1, if_neg (by decide), if_pos rfl] at h
           obtain ⟨v, hy, h'⟩ := quietV_yields hw h
           exact wpAnyT_exact ho (Region.noSelect_spec hs) (fun c a w => hQ c a w o v (Array.mem_of_getElem? ho)) (fun j hj => List.all_eq_true.1 hls.2 j hj) fuel listed a hc (Region.free_spec ho hfree) hready hy (ih _ _ hC h')
     · rw [if_neg hw] at h
       exact fin (fun _ => True) undef (fun _ _ => trivial) (.inr ⟨by simpa using hw, rfl⟩) h
end
section
variable {P : Program} {Q : Exit → Act → World → Prop} {C : World → Prop}
structure Pl (P : Program) (ops : Array Oper) (Q : Exit → Act → World → Prop) (C : World → Prop) (tail : Act → World → Prop) (r : List (Nat × Oper)) (a : Act) (w : World) : Prop where
 out : wpPlan P ops Q C tail r a w
def tailL (ops : Array Oper) (tl : List Nat) : List Oper := tl.filterMap (ops[·]?)
theorem wp_region_plan {id : Nat} {a : Act} {w : World} {l : List Oper} (pl : List (Nat × Nat)) (ls es tl : List Nat) (C : World → Prop) (hm : P.follows .mixedOrders = true) (hs : Region.noSelect l.toArray = true)
 (hp : planOK .any l.toArray ls es tl (Array.replicate l.toArray.size false) pl = true) (hl : pl.length + tl.length = l.toArray.size) (hmap : tl.map (l.toArray[·]?) = (tailL l.toArray tl).map some) (hC : C w.drew)
 (hQ : ∀ c a w d v, Q (.panic c) (Act.put a d v) w → Q (.panic c) a w)
 (h : Pl P l.toArray Q C (wpList P l.toArray Q (tailL l.toArray tl)) (planL l.toArray pl) a w.drew) : (Code.region id l.toArray true).wp P Q a w := by
 refine wp_region_any hm (wpAny_of_T (C := C) (ls := ls) (es := es) _ _ _ _ (plan_sound hs (fun c a w o v _ => hQ c a w o.dst v) tl _ hmap pl _ _ a _ hp hl ?_ hC h.out))
 intro j o ho hj
 exfalso
 revert hj
 rw [Array.getD_eq_getD_getElem?, Array.getElem?_replicate]
 split <;> simp
theorem wp_region_planD {id : Nat} {a : Act} {w : World} {l : List Oper} (pl : List (Nat × Nat)) (ls es tl : List Nat) (C : World → Prop) (hm : P.follows .mixedOrders = true) (hs : Region.noSelect l.toArray = true)
 (hp : planOK .any l.toArray ls es tl (Array.replicate l.toArray.size false) pl = true) (hl : pl.length + tl.length = l.toArray.size) (hmap : tl.map (l.toArray[·]?) = (tailL l.toArray tl).map some) (hC : C w.drew)
 (hQ : ∀ c a w (o : Oper) v, o ∈ l → Q (.panic c) (Act.put a o.dst v) w → Q (.panic c) a w)
 (h : Pl P l.toArray Q C (wpList P l.toArray Q (tailL l.toArray tl)) (planL l.toArray pl) a w.drew) : (Code.region id l.toArray true).wp P Q a w := by
 refine wp_region_any hm (wpAny_of_T (C := C) (ls := ls) (es := es) _ _ _ _ (plan_sound hs (fun c a w o v ho => hQ c a w o v (List.mem_toArray.1 ho)) tl _ hmap pl _ _ a _ hp hl ?_ hC h.out))
 intro j o ho hj
 exfalso
 revert hj
 rw [Array.getD_eq_getD_getElem?, Array.getElem?_replicate]
 split <;> simp
theorem leaves_congr {fn : Func} {t t' : Array Value} {R : Ending → World → Prop} (h : results fn t = results fn t') : ∀ (ds : List Deferred) (u : FrameMode) (w : World), Leaves P fn t R ds u w = Leaves P fn t' R ds u w
 | [], .returning, w => by unfold Leaves; rw [h]
 | [], .panicking _, w => by unfold Leaves; rfl
 | [], .run, w => by unfold Leaves; rfl
 | d :: ds, u, w => by
   have ih := leaves_congr (R := R) h ds
   unfold Leaves
   simp only [ih]
variable {ops : Array Oper} {tail : Act → World → Prop} {a : Act} {w : World} {r : List (Nat × Oper)} {o : Oper}
theorem plan_nil (h : tail a w) : Pl P ops Q C tail [] a w := ⟨h⟩
theorem plan_pure (hw : Region.wanted o (yielded ops a.tmps) = true)
 (h : ∀ K : Act → Prop, (∀ a, Pl P ops Q C tail r a w → K a) → quietV P o a (fun _ => True) K) : Pl P ops Q C tail ((0, o) :: r) a w := by
 refine ⟨?_⟩; unfold wpPlan; rw [if_pos hw, if_pos rfl]; exact h _ fun _ h => h.out
theorem plan_load (hw : Region.wanted o (yielded ops a.tmps) = true)
 (h : ∀ K : Act → Prop, (∀ a, Pl P ops Q C tail r a w → K a) → quietV P o a C K) : Pl P ops Q C tail ((1, o) :: r) a w := by
 refine ⟨?_⟩; unfold wpPlan; rw [if_pos hw, if_neg (by decide), if_pos rfl]; exact h _ fun _ h => h.out
theorem plan_exact (hw : Region.wanted o (yielded ops a.tmps) = true)
 (h : ∀ K : Act → Prop, (∀ a, Pl P ops Q C tail r a w → K a) → quietV P o a (fun x => x = w) K) : Pl P ops Q C tail ((3, o) :: r) a w := by
 refine ⟨?_⟩; unfold wpPlan; rw [if_pos hw, if_neg (by decide), if_neg (by decide), if_pos rfl]; exact h _ fun _ h => h.out
theorem plan_does (hw : Region.wanted o (yielded ops a.tmps) = true)
 (h : ∀ K : Act → World → Prop, (∀ a w, (C w ∧ Pl P ops Q C tail r a w) → K a w) → o.wp P a w K Q) : Pl P ops Q C tail ((2, o) :: r) a w := by
 refine ⟨?_⟩; unfold wpPlan; rw [if_pos hw, if_neg (by decide), if_neg (by decide), if_neg (by decide)]; exact h _ fun _ _ h => ⟨h.1, h.2.out⟩
theorem plan_skip {k : Nat} (hw : Region.wanted o (yielded ops a.tmps) = false) (h : Pl P ops Q C tail r (a.put o.dst undef) w) : Pl P ops Q C tail ((k, o) :: r) a w := by
 refine ⟨?_⟩; unfold wpPlan; rw [if_neg (by rw [hw]; exact Bool.false_ne_true)]; exact h.out
theorem quiet_move' {S : World → Prop} {K : Act → Prop} (x : Operand) (h : o.op = .move x) (hk : K (a.put o.dst (a.eval x))) : quietV P o a S K :=
 ⟨_, fun w _ => by simp [execOp, h], hk⟩
theorem quiet_assign' {S : World → Prop} {K : Act → Prop} (x : Operand) (h : o.op = .assign x) (hk : K (a.put o.dst (a.eval x))) : quietV P o a S K :=
 ⟨_, fun w _ => by simp [execOp, h], hk⟩
theorem quiet_runX {K : Act → Prop} (v : Value) (h : (execOp a.eval o).run P w = .ok (.value v) w) (hk : K (a.put o.dst v)) : quietV P o a (fun x => x = w) K :=
 ⟨v, fun x hx => by subst hx; exact h, hk⟩
theorem NoPanic.ok {Q : Exit → Act → World → Prop} (h : Q .normal a w) : NoPanic Q .normal a w := h
structure ExtW (w0 : World) where
 w : World
 h : Ext w0 w
def ClsE (w0 : World) : World → Prop := fun W => ∃ y : ExtW w0, W = y.w
theorem ClsE.of {w0 w1 : World} (h : Ext w0 w1) : ClsE w0 w1 := ⟨⟨w1, h⟩, rfl⟩
theorem ClsE.ext {w0 w1 : World} (h : ClsE w0 w1) : Ext w0 w1 := by obtain ⟨y, rfl⟩ := h; exact y.h
theorem quiet_run {S : World → Prop} {K : Act → Prop} (v : Value) (h : ∀ w, S w → (execOp a.eval o).run P w = .ok (.value v) w) (hk : K (a.put o.dst v)) : quietV P o a S K := ⟨v, h, hk⟩
theorem quiet_runE {w0 : World} {K : Act → Prop} (v : Value) (h : ∀ y : ExtW w0, (execOp a.eval o).run P y.w = .ok (.value v) y.w) (hk : K (a.put o.dst v)) : quietV P o a (ClsE w0) K :=
 ⟨v, fun w hw => by obtain ⟨y, rfl⟩ := hw; exact h y, hk⟩
end
structure KeepsW (S : Nat → Prop) (w0 : World) where
 w : World
 h : Keeps S w0 w
def ClsK (S : Nat → Prop) (w0 : World) : World → Prop := fun W => ∃ y : KeepsW S w0, W = y.w
theorem ClsK.of {S : Nat → Prop} {w0 w1 : World} (h : Keeps S w0 w1) : ClsK S w0 w1 := ⟨⟨w1, h⟩, rfl⟩
theorem quiet_runK {P : Program} {o : Oper} {a : Act} {S : Nat → Prop} {w0 : World} {K : Act → Prop} (v : Value) (h : ∀ y : KeepsW S w0, (execOp a.eval o).run P y.w = .ok (.value v) y.w) (hk : K (a.put o.dst v)) : quietV P o a (ClsK S w0) K :=
 ⟨v, fun w hw => by obtain ⟨y, rfl⟩ := hw; exact h y, hk⟩
@[go_sem] theorem KeepsW.cell {S : Nat → Prop} {w0 : World} (y : KeepsW S w0) (b o : Nat) (hb : b < w0.heap.size) (hs : ¬ S b) : y.w.cell? ⟨b, o, none⟩ = w0.cell? ⟨b, o, none⟩ :=
 World.cell?_of_block (w := w0) (a := ⟨b, o, none⟩) (y.h.block b hb hs)
@[go_sem] theorem OneB_eq (x b : Nat) : OneB x b = (b = x) := rfl
@[go_sem] theorem ExtW.cell {w0 : World} (y : ExtW w0) (b o : Nat) (hb : b < w0.heap.size) : y.w.cell? ⟨b, o, none⟩ = w0.cell? ⟨b, o, none⟩ := y.h.reads.1 b o hb
theorem nP : (∀ (a : Act) d v, a.put (some d) v = { a with tmps := a.tmps.setIfInBounds d v }) ∧ (∀ (a : Act) v, a.put none v = a) ∧ (∀ (l : List Value) i v, l.toArray.setIfInBounds i v = (l.set i v).toArray)
 ∧ (∀ (a : Value) l v, (a :: l).set 0 v = v :: l) ∧ ∀ (a : Value) l n v, (a :: l).set (n + 1) v = a :: l.set n v :=
 ⟨fun _ _ _ => rfl, fun _ _ => rfl, fun _ _ _ => by simp, fun _ _ _ => rfl, fun _ _ _ _ => rfl⟩
theorem nE : (∀ (a : Act) t, a.eval (.tmp t) = a.tmps.getD t undef) ∧ (∀ (a : Act) v, a.eval (.const v) = v) ∧ (∀ (a : Act) g, a.eval (.global g) = .pointer (some ⟨g, 0, none⟩)) ∧ (∀ (a : Act) f, a.eval (.func f) = .func (.func f) #[] #[])
 ∧ (∀ (l : List Value) n d, l.toArray.getD n d = l[n]?.getD d) ∧ (∀ (a : Value) l, (a :: l)[0]? = some a) ∧ (∀ (a : Value) l n, (a :: l)[n + 1]? = l[n]?) ∧ ∀ (v d : Value), (some v).getD d = v :=
 ⟨fun _ _ => rfl, fun _ _ => rfl, fun _ _ => rfl, fun _ _ => rfl, fun _ _ _ => by simp [Array.getD_eq_getD_getElem?], fun _ _ => rfl, fun _ _ _ => rfl, fun _ _ => rfl⟩
end
section
def anc2 (md : Region.Mode) (ops : Array Oper) (n j i : Nat) : Bool := (List.range (n + 1)).any fun d => anc md ops d j i
def needs2 (md : Region.Mode) (ops : Array Oper) (ls : List Nat) (j : Nat) : Bool := ls.any fun i => i != j && !anc2 md ops ops.size j i
def forcedOK2 (md : Region.Mode) (ops : Array Oper) (ls es : List Nat) : Array Bool → List Nat → Bool
 | listed, i :: tl => Region.ready md ops listed == [i] && !needs2 md ops ls i && es.contains i && forcedOK2 md ops ls es (listed.setIfInBounds i true) tl
 | listed, [] => Region.ready md ops listed == []
def planOK2 (md : Region.Mode) (ops : Array Oper) (ls es : List Nat) (tl : List Nat) : Array Bool → List (Nat × Nat) → Bool
 | listed, (k, i) :: r =>
   (if k == 2 then Region.ready md ops listed == [i] && es.contains i else Region.free md ops listed i && (Region.ready md ops listed).contains i && (k == 0 || (k == 1 && ls.contains i) || (k == 3 && es.all fun j => anc2 md ops ops.size j i))) && planOK2 md ops ls es tl (listed.setIfInBounds i true) r
 | listed, [] => forcedOK2 md ops ls es listed tl
theorem anc_succ {md : Region.Mode} {ops : Array Oper} : ∀ n j i, anc md ops n j i = true → anc md ops (n + 1) j i = true
 | 0, j, i, h => by cases h
 | n + 1, j, i, h => by
   unfold anc at h ⊢
   cases ho : ops[j]? with
   | none => rw [ho] at h; cases h
   | some o =>
     rw [ho] at h
     simp only [Option.map_some, Option.getD_some, Array.any_eq_true', Bool.and_eq_true, Bool.or_eq_true] at h ⊢
     obtain ⟨e, he, hb, h1⟩ := h
     exact ⟨e, he, hb, h1.imp id (anc_succ n _ _)⟩
theorem anc_le {md : Region.Mode} {ops : Array Oper} {d n j i : Nat} (h : d ≤ n) (ha : anc md ops d j i = true) : anc md ops n j i = true := by
 induction h with
 | refl => exact ha
 | step _ ih => exact anc_succ _ _ _ ih
theorem anc2_anc {md : Region.Mode} {ops : Array Oper} {n j i : Nat} (h : anc2 md ops n j i = true) : anc md ops n j i = true := by
 unfold anc2 at h
 obtain ⟨d, hd, h1⟩ := List.any_eq_true.1 h
 exact anc_le (Nat.lt_succ_iff.1 (List.mem_range.1 hd)) h1
theorem needs2_not {md : Region.Mode} {ops : Array Oper} {ls : List Nat} {j : Nat} (h : (!needs2 md ops ls j) = true) : (!needs md ops ls j) = true := by
 unfold needs2 at h
 unfold needs
 rw [Bool.not_eq_true', List.any_eq_false] at h ⊢
 intro i hi h1
 refine h i hi ?_
 rw [Bool.and_eq_true, Bool.not_eq_true'] at h1 ⊢
 refine ⟨h1.1, ?_⟩
 cases h2 : anc2 md ops ops.size j i with
 | false => rfl
 | true => have := anc2_anc h2; rw [h1.2] at this; cases this
theorem forced2 {md : Region.Mode} {ops : Array Oper} {ls es : List Nat} : ∀ (tl : List Nat) (d : Array Bool), forcedOK2 md ops ls es d tl = true → forcedOK md ops ls es d tl = true
 | [], d, h => h
 | i :: tl, d, h => by
   unfold forcedOK2 at h
   unfold forcedOK
   rw [Bool.and_eq_true, Bool.and_eq_true, Bool.and_eq_true] at h ⊢
   exact ⟨⟨⟨h.1.1.1, needs2_not h.1.1.2⟩, h.1.2⟩, forced2 tl _ h.2⟩
theorem plan2 {md : Region.Mode} {ops : Array Oper} {ls es tl : List Nat} : ∀ {pl : List (Nat × Nat)} {d : Array Bool}, planOK2 md ops ls es tl d pl = true → planOK md ops ls es tl d pl = true
 | [], d, h => forced2 tl d h
 | (k, i) :: r, d, h => by
   unfold planOK2 at h
   unfold planOK
   rw [Bool.and_eq_true] at h ⊢
   refine ⟨?_, plan2 h.2⟩
   have h1 := h.1
   by_cases hk : (k == 2) = true
   · rw [if_pos hk] at h1 ⊢; exact h1
   · rw [if_neg hk] at h1 ⊢
     rw [Bool.and_eq_true] at h1 ⊢
     refine ⟨h1.1, ?_⟩
     have h2 := h1.2
     rw [Bool.or_eq_true] at h2 ⊢
     refine h2.imp id fun h3 => ?_
     rw [Bool.and_eq_true, List.all_eq_true] at h3 ⊢
     exact ⟨h3.1, fun j hj => anc2_anc (h3.2 j hj)⟩
end
end Go.Proofs.YtoadjbgpfihoiaaGreatDoor
