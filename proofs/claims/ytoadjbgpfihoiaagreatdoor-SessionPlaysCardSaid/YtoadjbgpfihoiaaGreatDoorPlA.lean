/- Texts Base, Bs, Lift, Win, U8, one behind the other. Conditions: as each says. -/
import Derived.WalkKit
import Derived.ProofKit
import Derived.Lib.Hide
import Derived.RangeFuncNested
import Derived.Deep.QuietTactic
import Derived.BigQuiet
import Derived.Laws.EntriesVeiled
import Derived.OwnWalkIn
import Derived.TacticsInMore
import Derived.LoopNIn
import Derived.LoopIn
import Derived.Laws.IdiomStrings
import Derived.Test.YtoadjbgpfihoiaaGreatDoorRows
import Derived.OpenShut
import Derived.ChangeSame
import Derived.Deep.Upon
import Derived.Deep.MidRow
set_option linter.unusedVariables false
set_option linter.unusedSimpArgs false
set_option maxHeartbeats 8000000
set_option maxRecDepth 100000
namespace Go.Proofs.YtoadjbgpfihoiaaGreatDoor
open Go.RowKit
section
theorem Hd {p : Prop} (h : p) : Hid p := h
theorem cret {P : Program} {f : Nat} {args : Array Value} {w : World} {v : Value} {Q : Ending → World → Prop} (h : Calls P f args w fun e w' => e = .returned v ∧ w' = w) (k : Q (.returned v) w) : Calls P f args w Q := h.mono (by rintro e w' ⟨rfl, rfl⟩; exact k)
structure Keeps (S : Nat → Prop) (w w' : World) : Prop where
 os : w'.os = w.os
 tape : w'.tape = w.tape
 output : w'.output = w.output
 size : w.heap.size ≤ w'.heap.size
 block : ∀ k, k < w.heap.size → ¬ S k → w'.heap[k]? = w.heap[k]?
def NoB : Nat → Prop := fun _ => False
def OneB (b : Nat) : Nat → Prop := fun k => k = b
abbrev Ext (w w' : World) : Prop := Keeps NoB w w'
theorem noB (k : Nat) : ¬ NoB k := fun h => h
section
variable {S T : Nat → Prop} {w w1 w2 : World}
theorem Keeps.refl (S : Nat → Prop) (w : World) : Keeps S w w := ⟨rfl, rfl, rfl, Nat.le_refl _, fun _ _ _ => rfl⟩
theorem Keeps.trans (h : Keeps S w w1) (k : Keeps S w1 w2) : Keeps S w w2 :=
 ⟨k.os.trans h.os, k.tape.trans h.tape, k.output.trans h.output, Nat.le_trans h.size k.size,
  fun i hi hs => (k.block i (Nat.lt_of_lt_of_le hi h.size) hs).trans (h.block i hi hs)⟩
theorem Keeps.mono (h : Keeps S w w1) (hs : ∀ k, k < w.heap.size → S k → T k) : Keeps T w w1 :=
 ⟨h.os, h.tape, h.output, h.size, fun i hi ht => h.block i hi fun s => ht (hs i hi s)⟩
theorem Keeps.then (h : Keeps T w w1) (k : Keeps S w1 w2) (hs : ∀ i, i < w.heap.size → S i → T i) : Keeps T w w2 :=
 ⟨k.os.trans h.os, k.tape.trans h.tape, k.output.trans h.output, Nat.le_trans h.size k.size,
  fun i hi ht => (k.block i (Nat.lt_of_lt_of_le hi h.size) fun s => ht (hs i hi s)).trans (h.block i hi ht)⟩
theorem Keeps.ext (h : Keeps T w w1) (k : Ext w1 w2) : Keeps T w w2 := h.then k fun _ _ s => (noB _ s).elim
theorem Ext.keeps (h : Ext w w1) : Keeps S w w1 := h.mono fun _ _ s => (noB _ s).elim
theorem Keeps.drew (h : Keeps S w w1) : Keeps S w w1.drew := ⟨h.os, h.tape, h.output, h.size, h.block⟩
theorem Keeps.drewN (h : Keeps S w w1) (n : Nat) : Keeps S w (w1.drewN n) := ⟨h.os, h.tape, h.output, h.size, h.block⟩
theorem Keeps.alloc (h : Keeps S w w1) (o : Obj) : Keeps S w (w1.alloc o) :=
 ⟨h.os, h.tape, h.output, Nat.le_trans h.size (by simp), fun i hi hs => (Below.heap_alloc w1 o i (Nat.lt_of_lt_of_le hi h.size)).trans (h.block i hi hs)⟩
theorem Keeps.setCell (h : Keeps S w w1) (p : Addr) (u : Value) (hp : S p.block ∨ w.heap.size ≤ p.block) : Keeps S w (w1.setCell p u) :=
 ⟨h.os, h.tape, h.output, Nat.le_trans h.size (by simp [World.setCell]), fun i hi hs =>
  (Below.heap_setCell w1 p u i (by rintro rfl; rcases hp with hp | hp; exact hs hp; omega)).trans (h.block i hi hs)⟩
theorem Keeps.setOne {b : Nat} (h : Keeps (OneB b) w w1) (o : Nat) (u : Value) : Keeps (OneB b) w (w1.setCell ⟨b, o, none⟩ u) := h.setCell _ _ (.inl rfl)
theorem Keeps.setNew (h : Keeps S w w1) (p : Addr) (u : Value) (hp : w.heap.size ≤ p.block) : Keeps S w (w1.setCell p u) := h.setCell p u (.inr hp)
theorem Keeps.putObj (h : Keeps S w w1) (b : Nat) (o : Obj) (hp : S b ∨ w.heap.size ≤ b) : Keeps S w (w1.putObj b o) :=
 ⟨h.os, h.tape, h.output, Nat.le_trans h.size (by simp), fun i hi hs => by
  have hne : b ≠ i := by rintro rfl; rcases hp with hp | hp; exact hs hp; omega
  exact (World.putObj_heap_other hne.symm).trans (h.block i hi hs)⟩
theorem Keeps.grown (h : Keeps S w w1) {row : Option Nat} (hg : w1.grownBy w2 row) (hr : ∀ k, row = some k → S k ∨ w.heap.size ≤ k) : Keeps S w w2 :=
 ⟨hg.os.trans h.os, hg.tape.trans h.tape, hg.output.trans h.output, Nat.le_trans h.size hg.size, fun i hi hs =>
  (hg.block i (Nat.lt_of_lt_of_le hi h.size) (fun e => by rcases hr i e.symm with h1 | h1; exact hs h1; omega)).trans (h.block i hi hs)⟩
theorem Keeps.of_grownBy {row : Option Nat} (hg : w.grownBy w1 row) : Keeps (fun k => row = some k) w w1 :=
 ⟨hg.os, hg.tape, hg.output, hg.size, fun i hi hs => hg.block i hi fun e => hs e.symm⟩
theorem Keeps.below {B : Nat} (h : Keeps S w w1) (hB : B ≤ w.heap.size) (hs : ∀ k, k < B → ¬ S k) : Below B w w1 :=
 ⟨h.os, h.tape, h.output, h.size, fun k hk => h.block k (by omega) (hs k hk)⟩
theorem Ext.below (h : Ext w w1) : Below w.heap.size w w1 := Keeps.below h (Nat.le_refl _) fun _ _ => noB _
theorem Ext.of_below (h : Below w.heap.size w w1) : Ext w w1 := ⟨h.os, h.tape, h.output, h.size, fun k hk _ => h.block k hk⟩
theorem Keeps.cell (h : Keeps S w w1) {b o : Nat} {v : Value} (hs : ¬ S b) (hc : w.cell? ⟨b, o, none⟩ = some v) : w1.cell? ⟨b, o, none⟩ = some v :=
 (World.cell?_of_block (w := w) (a := ⟨b, o, none⟩) (h.block b (World.block_lt_of_cell? _ _ hc) hs)).trans hc
theorem Ext.cell (h : Ext w w1) {b o : Nat} {v : Value} (hc : w.cell? ⟨b, o, none⟩ = some v) : w1.cell? ⟨b, o, none⟩ = some v := Keeps.cell h (noB b) hc
theorem Keeps.frozen (h : Keeps S w w1) {b o : Nat} (hs : ¬ S b) (hb : b < w.heap.size) : w1.frozen? ⟨b, o, none⟩ = w.frozen? ⟨b, o, none⟩ :=
 World.frozen?_of_block (w := w) (a := ⟨b, o, none⟩) (h.block b hb hs)
theorem Ext.reads (h : Ext w w1) : (∀ b o, b < w.heap.size → w1.cell? ⟨b, o, none⟩ = w.cell? ⟨b, o, none⟩) ∧ (∀ b o, b < w.heap.size → w1.frozen? ⟨b, o, none⟩ = w.frozen? ⟨b, o, none⟩) :=
 ⟨fun b o hb => World.cell?_of_block (w := w) (a := ⟨b, o, none⟩) (h.block b hb (noB b)), fun b o hb => World.frozen?_of_block (w := w) (a := ⟨b, o, none⟩) (h.block b hb (noB b))⟩
end
theorem Ext.S {w w1 : World} (h : Ext w w1) : Ext w w1 ∧ ∀ b o, b < w.heap.size → w1.cell? ⟨b, o, none⟩ = w.cell? ⟨b, o, none⟩ := ⟨h, h.reads.1⟩
theorem Ext.of_drewN {w w1 : World} (h : ∃ n, w1 = w.drewN n) : Ext w w1 := by
 obtain ⟨n, rfl⟩ := h; exact (Keeps.refl _ _).drewN n
theorem Ext.drew0 (w : World) : Ext w w.drew := (Keeps.refl _ _).drew
def byV (c : UInt8) : Value := .int .u8 (c.toNat : Int)
def SlV {α : Type} (A : Nat → Prop) (At : Nat → Nat → α → Prop) (sz : Nat) (v : Value) (xs : List α) : Prop :=
 (∃ a, v = .slice a 0 0 ∧ xs = []) ∨
 ∃ b o c, v = .slice (some ⟨b, o, none⟩) xs.length c ∧ xs.length ≤ c ∧ A b ∧ ∀ i (h : i < xs.length), At b (o + i * sz) xs[i]
def ByteAt (w : World) (b o : Nat) (c : UInt8) : Prop := w.cell? ⟨b, o, none⟩ = some (byV c)
def Bytes (w : World) (A : Nat → Prop) (v : Value) (l : List UInt8) : Prop := SlV A (ByteAt w) 1 v l
section
variable {S : Nat → Prop} {w w' : World}
theorem SlV.mono {α : Type} {A A' : Nat → Prop} {At At' : Nat → Nat → α → Prop} {sz : Nat} {v : Value} {xs : List α} (h : SlV A At sz v xs)
 (hA : ∀ b, A b → A' b) (ht : ∀ b o x, A b → At b o x → At' b o x) : SlV A' At' sz v xs := by
 rcases h with h | ⟨b, o, c, h1, h2, h3, h4⟩
 · exact .inl h
 · exact .inr ⟨b, o, c, h1, h2, hA b h3, fun i hi => ht _ _ _ h3 (h4 i hi)⟩
theorem SlV.nil {α : Type} {A : Nat → Prop} {At : Nat → Nat → α → Prop} {sz : Nat} : SlV A At sz (.slice none 0 0) [] := .inl ⟨none, rfl, rfl⟩
theorem Bytes.mono {A A' : Nat → Prop} {v : Value} {l : List UInt8} (h : Bytes w A v l) (hA : ∀ b, A b → A' b) : Bytes w A' v l :=
 SlV.mono h hA fun _ _ _ _ h => h
theorem Bytes.keeps {A : Nat → Prop} {v : Value} {l : List UInt8} (h : Bytes w A v l) (hk : Keeps S w w') (hA : ∀ b, A b → ¬ S b) : Bytes w' A v l :=
 SlV.mono h (fun _ h => h) fun b _ _ ha hb => hk.cell (hA b ha) hb
theorem Bytes.ext {A : Nat → Prop} {v : Value} {l : List UInt8} (h : Bytes w A v l) (hk : Ext w w') : Bytes w' A v l := h.keeps hk fun _ _ => noB _
end
def BytesAt (w : World) (A : Nat → Prop) (b o : Nat) (l : List UInt8) : Prop := ∃ v, w.cell? ⟨b, o, none⟩ = some v ∧ Bytes w A v l
theorem Bytes.len {w : World} {A : Nat → Prop} {v : Value} {l : List UInt8} (h : Bytes w A v l) : ∃ a c, v = .slice a l.length c := by
 rcases h with ⟨a, rfl, rfl⟩ | ⟨b, o, c, rfl, _⟩
 · exact ⟨_, _, rfl⟩
 · exact ⟨_, _, rfl⟩
def SrcCells (w : World) (x : Value) (m : Nat) (news : List Value) : Prop :=
 (x = .slice none 0 0 ∧ m = 0 ∧ news = []) ∨ ∃ ad c, x = .slice (some ad) m c ∧ ∀ j u, news[j]? = some u → w.cell? (ad.add j) = some u
theorem Bytes.src {w : World} {A : Nat → Prop} {v : Value} {l : List UInt8} (h : Bytes w A v l) : SrcCells w v l.length (l.map byV) := by
 rcases h with ⟨a, rfl, rfl⟩ | ⟨b, o, c, rfl, h1, h2, h3⟩
 · cases a with
   | none => exact .inl ⟨rfl, rfl, rfl⟩
   | some ad => exact .inr ⟨ad, 0, rfl, fun j u hu => by simp at hu⟩
 · refine .inr ⟨_, _, rfl, fun j u hu => ?_⟩
   rw [List.getElem?_map] at hu; obtain ⟨y, hy, rfl⟩ := Option.map_eq_some_iff.1 hu; obtain ⟨hj, rfl⟩ := List.getElem?_eq_some_iff.1 hy; have := h3 j hj; unfold ByteAt at this; by_cases hj0 : j = 0
   · subst hj0; simpa [Addr.add] using this
   · simpa [Addr.add, hj0] using this
theorem byV_one (l : List UInt8) : ∀ u ∈ l.map byV, u.oneCell' = true := by
 intro u hu; obtain ⟨c, _, rfl⟩ := List.mem_map.1 hu; rfl
theorem run_append_own2 {P : Program} (w : World) (base : Nat) (t ty e : TypeId) (i : TypeInfo) (z : Value) (size bytes : Nat) (ht : P.underlying t = some (.slice e)) (hi : P.info? e = some i) (hz : i.zero = some z)
 (hsize : i.size = size) (hby : i.bytes = bytes) (hzs : z.cells.size = size) (hsz : 0 < size)
 (v : Value) (n : Nat) (xs : List Value) (hown : w.ownsRow base e size v n xs)
 (a : Addr) (m c : Nat) (news : List Value) (hl : news.length = m * size) (hnews : ∀ j u, news[j]? = some u → w.cell? (a.add j) = some u) (h1 : ∀ u ∈ news, u.oneCell' = true)
 (h63 : n + m ≤ maxLen) (hbytes : (n + m) * bytes ≤ 140737488355328) (hbase : base ≤ w.heap.size) :
 ∃ v' w', (Builtin.append_ #[t, t] ty #[v, .slice (some a) m c]).run P w = .ok v' w' ∧ w'.ownsRow base e size v' (n + m) (xs ++ news) ∧ w.grownBy w' v.ownBlock ∧
   (v'.ownBlock = v.ownBlock ∨ v'.ownBlock = some w.heap.size) := by
 subst hsize; subst hby
 have hsmall : n + m ≤ 9223372036854775807 := by simp only [maxLen] at h63; omega
 have hlen : (xs ++ news).length = (n + m) * i.size := by rw [List.length_append, hown.1, hl, Nat.add_mul]
 have grown : ∀ (old : Nat), old < n + m → ∀ (row : Option Nat),
  (w.drew.alloc (.cells (xs.toArray ++ news.toArray ++ Builtin.zeroCells z.cells (grownCap w (n + m) old e - (n + m))) e)).ownsRow base e i.size
   (.slice (some ⟨w.heap.size, 0, none⟩) (n + m) (grownCap w (n + m) old e)) (n + m) (xs ++ news) ∧
  w.grownBy (w.drew.alloc (.cells (xs.toArray ++ news.toArray ++ Builtin.zeroCells z.cells (grownCap w (n + m) old e - (n + m))) e)) row := by
  intro old ho row; have hge := grownCap_ge w (n + m) old e; have hcm : grownCap w (n + m) old e ≤ maxLen := grownCap_le_maxLen w (n + m) old e h63; refine ⟨⟨hlen, .inr ⟨w.heap.size, _, _, rfl, hbase, heap_alloc_new w.drew _, hge, hcm, ?_, ?_⟩⟩, ⟨rfl, rfl, rfl, by simp, fun k hk _ => Below.heap_alloc w.drew _ k hk⟩⟩
  · simp only [Array.size_append, List.size_toArray, size_zeroCells, hzs, hown.1, hl, ← Nat.add_mul]
    congr 1
    omega
  · simp only [Array.toList_append, List.append_assoc]
    rw [← List.append_assoc, ← hlen]; exact List.take_left
 rcases hown.2 with ⟨rfl, rfl⟩ | ⟨g, cap, cur, rfl, hbg, hg, hnc, hcm, hcs, htake⟩
 · have hx : xs = [] := List.eq_nil_of_length_eq_zero (by simpa using hown.1)
   subst hx; by_cases hm : m = 0
   · subst hm
     have hn : news = [] := List.eq_nil_of_length_eq_zero (by simpa using hl); subst hn; refine ⟨.slice none 0 0, w, ?_, World.ownsRow_nil w base e i.size, ⟨rfl, rfl, rfl, Nat.le_refl _, fun _ _ _ => rfl⟩, .inl rfl⟩; simp [Builtin.append_, run_underlying ht, sizeOf, typeInfo, hi, Builtin.lenOf, Builtin.firstCells, loadCells, loadCellsFrom]
   · have hr := run_append_nil (P := P) w t ty e i z ht hi hz a m c news hl hnews (by omega) (by omega) (by have hb := hbytes; simp only [Nat.zero_add] at hb; omega)
     have hgr := grown 0 (by omega) (Value.ownBlock (.slice none 0 0)); simp only [Nat.zero_add, List.nil_append, Array.empty_append] at hgr ⊢; exact ⟨_, _, hr, hgr.1, hgr.2, .inr rfl⟩
 · by_cases hroom : n + m ≤ cap
   · have hfit : n * i.size + news.length ≤ cur.size := by rw [hl, hcs, ← Nat.add_mul]; exact Nat.mul_le_mul_right _ hroom
     have hr := run_append_room (P := P) w t ty e i ht hi g n cap cur hg a m c news hl hnews h1 hroom hfit; refine ⟨_, _, hr, ⟨hlen, .inr ⟨g, cap, _, rfl, hbg, setRow_heap w g cur _ e _ hg, hroom, hcm, ?_, ?_⟩⟩, ⟨rfl, rfl, rfl, by simp, fun k _ hk => setRow_other w g k _ (fun e => hk (by simp [Value.ownBlock, e]))⟩, .inl rfl⟩
     · simp only [List.size_toArray, List.length_append, List.length_take, List.length_drop, Array.length_toList]
       omega
     · rw [htake, ← hlen]
       exact List.take_left
   · have holds : ∀ j u, xs[j]? = some u → w.cell? ((⟨g, 0, none⟩ : Addr).add j) = some u := hown.cells (g := g) rfl
     have hr := run_append_grow (P := P) w t ty e i z ht hi hz ⟨g, 0, none⟩ n cap xs hown.1 holds a m c news hl hnews (by omega) (by omega) (growslice_fits (by omega) hbytes); have hgr := grown cap (by omega) (Value.ownBlock (.slice (some ⟨g, 0, none⟩) n cap)); exact ⟨_, _, hr, hgr.1, hgr.2, .inr rfl⟩
theorem run_append_src {P : Program} (w : World) (base : Nat) (t ty e : TypeId) (i : TypeInfo) (z : Value) (size bytes : Nat) (ht : P.underlying t = some (.slice e)) (hi : P.info? e = some i) (hz : i.zero = some z)
 (hsize : i.size = size) (hby : i.bytes = bytes) (hzs : z.cells.size = size) (hsz : 0 < size)
 (v : Value) (n : Nat) (xs : List Value) (hown : w.ownsRow base e size v n xs) (x : Value) (m : Nat) (news : List Value) (hx : SrcCells w x m news) (hl : news.length = m * size) (h1 : ∀ u ∈ news, u.oneCell' = true)
 (h63 : n + m ≤ maxLen) (hbytes : (n + m) * bytes ≤ 140737488355328) (hbase : base ≤ w.heap.size) :
 ∃ v' w', (Builtin.append_ #[t, t] ty #[v, x]).run P w = .ok v' w' ∧ w'.ownsRow base e size v' (n + m) (xs ++ news) ∧ w.grownBy w' v.ownBlock ∧
   (v'.ownBlock = v.ownBlock ∨ v'.ownBlock = some w.heap.size) := by
 rcases hx with ⟨rfl, rfl, rfl⟩ | ⟨ad, c, rfl, hc⟩
 · exact ⟨v, w, run_append_owned_none (P := P) w base t ty e i size ht hi v n xs hown, by simpa using hown, World.grownBy.refl _ _, .inl rfl⟩
 · exact run_append_own2 (P := P) w base t ty e i z size bytes ht hi hz hsize hby hzs hsz v n xs hown ad m c news hl hc h1 h63 hbytes hbase
theorem Box.src {w : World} {b : Nat} {t : TypeId} {cs : List Value} (h : w.heap[b]? = some (.cells cs.toArray t (0, 0))) (m c : Nat) : SrcCells w (.slice (some ⟨b, 0, none⟩) m c) m cs := by
 refine .inr ⟨_, _, rfl, fun j u hu => ?_⟩; have : w.cell? ⟨b, j, none⟩ = some u := by simp only [World.cell?, h]; simpa using hu
 by_cases hj : j = 0
 · subst hj; simpa [Addr.add] using this
 · simpa [Addr.add, hj] using this
def Wr (w : World) (v : Value) : Prop := ∀ b o n c, v = .slice (some ⟨b, o, none⟩) n c → ∀ i, w.frozen? ⟨b, i, none⟩ = false
theorem Wr.of_owns {w : World} {base : Nat} {e : TypeId} {sz : Nat} {v : Value} {n : Nat} {xs : List Value} (h : w.ownsRow base e sz v n xs) : Wr w v := by
 rintro b o m c rfl i; rcases h.2 with ⟨h0, _⟩ | ⟨g, cap, cur, h0, hb, hg, _⟩
 · cases h0
 · cases h0
   simp [World.frozen?, hg]
theorem Bytes.of_owns {w : World} {base : Nat} {e : TypeId} {v : Value} {n : Nat} {l : List UInt8} (h : w.ownsRow base e 1 v n (l.map byV)) : Bytes w (fun b => base ≤ b ∧ b < w.heap.size) v l := by
 have hn : l.length = n := by have := h.1; simpa using this
 have hlt := h.lt; rcases h.2 with ⟨rfl, h0⟩ | ⟨g, cap, cur, rfl, hb, hg, h1, _⟩
 · exact .inl ⟨none, rfl, List.eq_nil_of_length_eq_zero (by omega)⟩
 · subst hn
   refine .inr ⟨g, 0, cap, rfl, h1, hlt g rfl, fun i hi => ?_⟩; have := h.cells (g := g) rfl i (byV l[i]) (by simp [hi]); unfold ByteAt; by_cases hi0 : i = 0
   · subst hi0; simpa [Addr.add] using this
   · simpa [Addr.add, hi0] using this
theorem cell_set {w : World} {b o : Nat} {u : Value} (h : w.cell? ⟨b, o, none⟩ = some u) (v : Value) (b' o' : Nat) :
 (w.setCell ⟨b, o, none⟩ v).cell? ⟨b', o', none⟩ = if b' = b ∧ o' = o then some v else w.cell? ⟨b', o', none⟩ := by
 by_cases hx : b' = b ∧ o' = o
 · rw [if_pos hx, hx.1, hx.2]; exact World.cell?_setCell_same _ _ _ h
 · rw [if_neg hx]
   refine World.cell?_setCell_other _ _ _ _ ?_; intro e; injection e with e1 e2
   exact hx ⟨e1.symm, e2.symm⟩
theorem cell_put (w : World) (b o : Nat) (v : Value) (h : (w.cell? ⟨b, o, none⟩).isSome = true) : (w.setCell ⟨b, o, none⟩ v).cell? ⟨b, o, none⟩ = some v := by
 obtain ⟨u, hu⟩ := Option.isSome_iff_exists.1 h; rw [cell_set hu]; simp
theorem cell_keep (w : World) (b o : Nat) (v : Value) (b' o' : Nat) (h : b' ≠ b ∨ o' ≠ o) : (w.setCell ⟨b, o, none⟩ v).cell? ⟨b', o', none⟩ = w.cell? ⟨b', o', none⟩ := by
 refine World.cell?_setCell_other _ _ _ _ ?_; intro e; injection e with e1 e2
 rcases h with h | h
 · exact h e1.symm
 · exact h e2.symm
theorem has_set {w : World} {b o : Nat} (v : Value) {b' o' : Nat} (h : ∃ u, w.cell? ⟨b', o', none⟩ = some u) : ∃ u, (w.setCell ⟨b, o, none⟩ v).cell? ⟨b', o', none⟩ = some u := by
 obtain ⟨u, hu⟩ := h; by_cases hx : b' = b ∧ o' = o
 · obtain ⟨rfl, rfl⟩ := hx
   exact ⟨v, World.cell?_setCell_same _ _ _ hu⟩
 · refine ⟨u, ?_⟩
   rw [cell_keep _ _ _ _ _ _ (by omega)]; exact hu
def Box (w : World) (b : Nat) (t : TypeId) (cs : List Value) : Prop := w.heap[b]? = some (.cells cs.toArray t (0, 0))
section
variable {w w' : World} {b : Nat} {t : TypeId} {cs : List Value} {S : Nat → Prop}
theorem Box.new (w : World) (t : TypeId) (cs : List Value) : Box (w.alloc (.cells cs.toArray t)) w.heap.size t cs := World.alloc_heap_new w _
theorem Box.lt (h : Box w b t cs) : b < w.heap.size := (Array.getElem?_eq_some_iff.1 h).1
theorem Box.alloc (h : Box w b t cs) (o : Obj) : Box (w.alloc o) b t cs := (Below.heap_alloc w o b h.lt).trans h
theorem Box.drew (h : Box w b t cs) : Box w.drew b t cs := h
theorem Box.drewN (h : Box w b t cs) (n : Nat) : Box (w.drewN n) b t cs := h
theorem Box.other (h : Box w b t cs) (p : Addr) (u : Value) (hp : b ≠ p.block) : Box (w.setCell p u) b t cs := (Below.heap_setCell w p u b hp).trans h
theorem Box.keeps (h : Box w b t cs) (hk : Keeps S w w') (hs : ¬ S b) : Box w' b t cs := (hk.block b h.lt hs).trans h
theorem Box.ext (h : Box w b t cs) (hk : Ext w w') : Box w' b t cs := h.keeps hk (noB b)
theorem Box.set (h : Box w b t cs) (o : Nat) (u : Value) : Box (w.setCell ⟨b, o, none⟩ u) b t (cs.set o u) := by
 unfold Box at *; have hl := (Array.getElem?_eq_some_iff.1 h).1; simp only [World.setCell, Array.getElem?_modify, h]; simp
theorem Box.reads (h : Box w b t cs) : (∀ o, w.cell? ⟨b, o, none⟩ = cs[o]?) ∧ (∀ o, w.frozen? ⟨b, o, none⟩ = false) := by
 unfold Box at h; constructor
 · intro o; simp [World.cell?, h]
 · intro o; simp [World.frozen?, h]
end
def RowOf {α : Type} (sz : Nat) (En : List Value → α → Prop) (cs : List Value) (l : List α) : Prop :=
 ∃ css : List (List Value), cs = css.flatten ∧ css.length = l.length ∧ ∀ j (h : j < l.length) (h' : j < css.length), css[j].length = sz ∧ En css[j] l[j]
theorem RowOf.nil {α : Type} {sz : Nat} {En : List Value → α → Prop} : RowOf sz En [] [] := ⟨[], rfl, rfl, fun j h => by simp at h⟩
theorem RowOf.snoc {α : Type} {sz : Nat} {En : List Value → α → Prop} {cs c : List Value} {l : List α} {x : α} (h : RowOf sz En cs l) (hc : c.length = sz) (hx : En c x) : RowOf sz En (cs ++ c) (l ++ [x]) := by
 obtain ⟨css, rfl, h1, h2⟩ := h; refine ⟨css ++ [c], by simp, by simp [h1], fun j hj hj' => ?_⟩; by_cases hjl : j < l.length
 · rw [List.getElem_append_left (by omega), List.getElem_append_left hjl]
   exact h2 j hjl (by omega)
 · have : j = l.length := by simp at hj; omega
   subst this; rw [List.getElem_append_right (by omega), List.getElem_append_right (by omega)]; simp [h1, hc, hx]
theorem RowOf.mono {α : Type} {sz : Nat} {En En' : List Value → α → Prop} {cs : List Value} {l : List α} (h : RowOf sz En cs l) (hm : ∀ c x, En c x → En' c x) : RowOf sz En' cs l :=
 let ⟨css, h0, h1, h2⟩ := h
 ⟨css, h0, h1, fun j hj hj' => ⟨(h2 j hj hj').1, hm _ _ (h2 j hj hj').2⟩⟩
theorem flat_len_uniform {sz : Nat} : ∀ (css : List (List Value)), (∀ j (h : j < css.length), css[j].length = sz) → css.flatten.length = css.length * sz
 | [], _ => by simp
 | c :: css, h => by
   have h0 := h 0 (by simp); have ih := flat_len_uniform css fun j hj => by have := h (j + 1) (by simp; omega); simpa using this
   simp only [List.getElem_cons_zero] at h0; simp only [List.flatten_cons, List.length_append, ih, h0, List.length_cons, Nat.add_mul]; omega
theorem flat_get {sz : Nat} : ∀ (css : List (List Value)) (j i : Nat) (hj : j < css.length), (∀ j (h : j < css.length), css[j].length = sz) → i < sz → css.flatten[j * sz + i]? = css[j][i]?
 | [], j, i, hj, _, _ => by simp at hj
 | c :: css, 0, i, hj, h, hi => by
   have h0 := h 0 (by simp); simp only [List.getElem_cons_zero] at h0; simp only [Nat.zero_mul, Nat.zero_add, List.flatten_cons, List.getElem_cons_zero]; rw [List.getElem?_append_left (by omega)]
 | c :: css, j + 1, i, hj, h, hi => by
   have h0 := h 0 (by simp); simp only [List.getElem_cons_zero] at h0; simp only [List.flatten_cons, List.getElem_cons_succ]; rw [List.getElem?_append_right (by rw [h0, Nat.add_mul]; omega), show (j + 1) * sz + i - c.length = j * sz + i by rw [h0, Nat.add_mul]; omega]; exact flat_get css j i (by simpa using hj) (fun j hj => by have := h (j + 1) (by simp; omega); simpa using this) hi
theorem RowOf.length {α : Type} {sz : Nat} {En : List Value → α → Prop} {cs : List Value} {l : List α} (h : RowOf sz En cs l) : cs.length = l.length * sz := by
 obtain ⟨css, rfl, h1, h2⟩ := h; rw [flat_len_uniform css fun j hj => (h2 j (by omega) hj).1, h1]
theorem RowOf.get {α : Type} {sz : Nat} {En : List Value → α → Prop} {cs : List Value} {l : List α} (h : RowOf sz En cs l) (j : Nat) (hj : j < l.length) :
 ∃ c, c.length = sz ∧ En c l[j] ∧ ∀ i, i < sz → cs[j * sz + i]? = c[i]? := by
 obtain ⟨css, rfl, h1, h2⟩ := h; have hj' : j < css.length := by omega
 exact ⟨css[j], (h2 j hj hj').1, (h2 j hj hj').2, fun i hi => flat_get css j i hj' (fun j hj => (h2 j (by omega) hj).1) hi⟩
theorem SlV.of_owns {α : Type} {w : World} {base : Nat} {e : TypeId} {sz : Nat} {v : Value} {n : Nat} {cs : List Value} {l : List α} {En : List Value → α → Prop} {At : Nat → Nat → α → Prop}
 (h : w.ownsRow base e sz v n cs) (hn : n = l.length) (hr : RowOf sz En cs l) (hat : ∀ b o c x, En c x → c.length = sz → (∀ i, i < sz → w.cell? ⟨b, o + i, none⟩ = c[i]?) → At b o x) :
 SlV (fun b => base ≤ b ∧ b < w.heap.size) At sz v l := by
 subst hn; have hlt := h.lt; rcases h.2 with ⟨rfl, h0⟩ | ⟨g, cap, cur, rfl, hb, hg, h1, _⟩
 · exact .inl ⟨none, rfl, List.eq_nil_of_length_eq_zero (by omega)⟩
 · refine .inr ⟨g, 0, cap, rfl, h1, hlt g rfl, fun j hj => ?_⟩
   obtain ⟨c, hc1, hc2, hc3⟩ := hr.get j hj; refine hat _ _ c _ hc2 hc1 fun i hi => ?_
   have hcell := h.cellAt (j * sz + i) (by
    have : (j + 1) * sz ≤ l.length * sz := Nat.mul_le_mul_right _ hj; rw [Nat.add_mul] at this
    omega)
   rw [Nat.zero_add, hcell]; exact hc3 i hi
section
variable {P : Program} {ops : Array Oper} {rest : List Oper} {o : Oper} {a : Act} {w w' : World} {Q : Exit → Act → World → Prop} {F : Fence} {n : Nat}
theorem wpList_ran {v : Value} (hg : o.guard = none) (hr : (execOp a.eval o).run P w = .ok (.value v) w') (h : wpList P ops Q rest (a.put o.dst v) w') : wpList P ops Q (o :: rest) a w := by
 refine wpList_plain hg fun K hK => ?_
 unfold Oper.wp; rw [hr]; exact hK _ _ h
theorem wpList_append_ran {t u : TypeId} {vs vx v : Value} (hg : o.guard = none) (s x : Operand) (hr : (Builtin.append_ #[t, u] o.type #[vs, vx]).run P w = .ok v w')
 (ho : o.op = .call { callee := .builtin .append, args := #[s, x], argTypes := #[t, u] }) (hs : a.eval s = vs) (hx : a.eval x = vx)
 (h : wpList P ops Q rest (a.put o.dst v) w') : wpList P ops Q (o :: rest) a w :=
 wpList_ran hg (by simp [execOp, ho, resolve, invoke, builtin, hs, hx, hr, Result.andThen]) h
theorem oper_append_ran {K : Act → World → Prop} {t u : TypeId} {vs vx v : Value} (s x : Operand) (hr : (Builtin.append_ #[t, u] o.type #[vs, vx]).run P w = .ok v w')
 (ho : o.op = .call { callee := .builtin .append, args := #[s, x], argTypes := #[t, u] }) (hs : a.eval s = vs) (hx : a.eval x = vx) (h : K (a.put o.dst v) w') : o.wp P a w K Q := by
 unfold Oper.wp; have : (execOp a.eval o).run P w = .ok (.value v) w' := by simp [execOp, ho, resolve, invoke, builtin, hs, hx, hr, Result.andThen]
 rw [this]; exact h
end
end
def bs (l : List UInt8) : ByteArray := ⟨l.toArray⟩
theorem bs_size (l : List UInt8) : (bs l).size = l.length := by simp [bs, ByteArray.size]
theorem bs_data (l : List UInt8) : (bs l).data.toList = l := by simp [bs]
theorem bs_of (s : ByteArray) : bs s.data.toList = s := by simp [bs]
theorem str_loop (b : ByteArray) : ∀ (n i : Nat) (r : List UInt8), b.size - i = n → ByteArray.toList.loop b i r = r.reverse ++ b.data.toList.drop i
 | 0, i, r, h => by
   unfold ByteArray.toList.loop; have hs : b.size = b.data.toList.length := by rw [Array.length_toList]; rfl
   rw [if_neg (by omega), List.drop_of_length_le (by omega)]; simp
 | n + 1, i, r, h => by
   unfold ByteArray.toList.loop; have hs : b.size = b.data.toList.length := by rw [Array.length_toList]; rfl
   rw [if_pos (by omega), str_loop b n (i + 1) _ (by omega)]; have hi : i < b.data.toList.length := by omega
   rw [List.drop_eq_getElem_cons hi]
   have : b.get! i = b.data.toList[i] := by
    simp [ByteArray.get!]; rw [getElem!_pos]
   simp [this]
theorem bs_toList (l : List UInt8) : (bs l).toList = l := by
 unfold ByteArray.toList; rw [str_loop _ _ 0 [] rfl]; simp [bs]
section
open Go.RowKit Go.ChangeShapes Go.WideShapes Go.ChangeAt
theorem post_true {H : Type} {enc : TypeId × Value → H} {f : Func} {s : ChangeSpec} {fresh handsOn : Bool} {W W' : World} {args : Array Value} {ds gs : List (DataW H)} {before pa pv : List MemPlace}
 (hE : Ext W W') (hrt : f.resultTypes = #[4]) (hf : (s.fn H (ds ++ gs)).results = [.lit (.bool true)])
 (hW : DataW.Whole enc Tryz.prog f.params.toList s.vars false W args.toList ds gs before)
 (hargs : ∀ sp : Nat → Bool, (∀ p ∈ before, sp p.block = true) → DataW.TrodAll enc Tryz.prog W' 0 sp true f.params.toList args.toList (s.fn H (ds ++ gs)).args pa)
 (hvars : ∀ sp : Nat → Bool, (∀ p ∈ before, sp p.block = true) → DataW.TrodVars enc Tryz.prog W' sp s.vars (s.fn H (ds ++ gs)).vars pv) (hps : before = pa ++ pv) :
 s.post enc Tryz.prog f false fresh handsOn false W args (.bool true) W' := by
 have hold : ∀ p ∈ before, (fun b => decide (b < W.heap.size)) p.block = true := fun p hp => by simpa using hW.lt p hp
 have hres : ∀ b sp hd, DataW.TrodAll enc Tryz.prog W' b sp hd f.resultTypes.toList ((Value.bool true).resultList f.resultTypes.size) (s.fn H (ds ++ gs)).results [] := by
  intro b sp hd; rw [hf, hrt]; exact trodAll_cons_mk (shut_bool Tryz.underlying4 _) trodAll_mk0
 have hk : W.keptBut W' (fun _ => False) := hE.below.frame _; have hlt := hW.lt; refine ⟨ds, gs, before, [], pa, pv, hW, hres _ _ _, hargs _ hold, hvars _ hold, World.keptBut_mono (fun _ h => h.elim) hk, fun _ => ?_⟩; obtain ⟨_, _, _, _, _, hz, hn⟩ := hW; refine ⟨?_, _, _, ([] ++ pa) ++ pv, ⟨[] ++ pa, pv, trodAll_append (hargs _ fun _ _ => rfl) (hres _ _ _), hvars _ fun _ _ => rfl, rfl, ?_, fun h => ?_⟩, ?_⟩
 · exact ok_one hrt rfl (okWide_bool_mk Tryz.underlying4 _)
 · intro b off hp
   have hp' : MemPlace.cell b off ∈ before := by rw [hps]; simpa using hp
   rw [Keeps.frozen hE (noB b) (hlt _ hp')]; exact hz b off hp'
 · have := hn h
   rw [hps] at this; simpa using this
 · intro p hp _
   rw [hps]; simpa using hp
end
section
def Win (w : World) (base sz : Nat) (v : Value) (n : Nat) (cs : List Value) : Prop :=
 cs.length = n * sz ∧ ((v = .slice none 0 0 ∧ n = 0) ∨
  ∃ g o cap, v = .slice (some ⟨g, o, none⟩) n cap ∧ base ≤ g ∧ n ≤ cap ∧ cap ≤ maxLen ∧ g < w.heap.size ∧ w.there g o (cap * sz) ∧ w.rangeAt g o cs)
def Own (v : Value) : Nat → Prop := fun k => v.ownBlock = some k
theorem Win.nil (w : World) (base sz : Nat) : Win w base sz (.slice none 0 0) 0 [] := ⟨by simp, .inl ⟨rfl, rfl⟩⟩
section
variable {w w' : World} {S : Nat → Prop} {base sz n : Nat} {v : Value} {cs : List Value}
theorem Win.keeps (h : Win w base sz v n cs) (hk : Keeps S w w') (hb : ∀ g, v.ownBlock = some g → ¬ S g) : Win w' base sz v n cs := by
 obtain ⟨h0, h | ⟨g, o, cap, rfl, h1, h2, h3, h4, h5, h6⟩⟩ := h
 · exact ⟨h0, .inl h⟩
 · have hg := hb g rfl
   have hc : ∀ a : Addr, a.block = g → w'.cell? a = w.cell? a := fun a ha => World.cell?_of_block (by rw [ha]; exact hk.block g h4 hg)
   have hf : ∀ a : Addr, a.block = g → w'.frozen? a = w.frozen? a := fun a ha => World.frozen?_of_block (by rw [ha]; exact hk.block g h4 hg)
   exact ⟨h0, .inr ⟨g, o, cap, rfl, h1, h2, h3, Nat.lt_of_lt_of_le h4 hk.size, fun j hj => ⟨by rw [hc _ rfl]; exact (h5 j hj).1, by rw [hf _ rfl]; exact (h5 j hj).2⟩, fun j u hu => by rw [hc _ rfl]; exact h6 j u hu⟩⟩
theorem Win.ext (h : Win w base sz v n cs) (hk : Ext w w') : Win w' base sz v n cs := h.keeps hk fun _ _ => noB _
theorem Win.len (h : Win w base sz v n cs) : ∃ a c, v = .slice a n c := by
 rcases h.2 with ⟨rfl, rfl⟩ | ⟨g, o, cap, rfl, _⟩
 · exact ⟨_, _, rfl⟩
 · exact ⟨_, _, rfl⟩
theorem Win.form (h : Win w base sz v n cs) (hn : 0 < n) : ∃ g o cap, v = .slice (some ⟨g, o, none⟩) n cap ∧ base ≤ g ∧ g < w.heap.size ∧ n ≤ cap ∧ w.rangeAt g o cs := by
 rcases h.2 with ⟨_, h0⟩ | ⟨g, o, cap, h1, h2, h3, h4, h5, h6, h7⟩
 · omega
 · exact ⟨g, o, cap, h1, h2, h5, h3, h7⟩
theorem Win.block (h : Win w base sz v n cs) : ∀ g, v.ownBlock = some g → base ≤ g ∧ g < w.heap.size := by
 intro g hg; rcases h.2 with ⟨rfl, _⟩ | ⟨g', o, cap, rfl, h2, h3, h4, h5, h6, h7⟩
 · cases hg
 · cases hg; exact ⟨h2, h5⟩
theorem Win.mono {base' : Nat} (h : Win w base sz v n cs) (hb : base' ≤ base) : Win w base' sz v n cs := by
 obtain ⟨h0, h | ⟨g, o, cap, h1, h2, h3⟩⟩ := h
 · exact ⟨h0, .inl h⟩
 · exact ⟨h0, .inr ⟨g, o, cap, h1, by omega, h3⟩⟩
theorem Win.drop {g o cap : Nat} (h : Win w base sz (.slice (some ⟨g, o, none⟩) n cap) n cs) (i : Nat) (hi : i ≤ n) : Win w base sz (.slice (some ⟨g, o + i * sz, none⟩) (n - i) (cap - i)) (n - i) (cs.drop (i * sz)) := by
 obtain ⟨h0, ⟨h, _⟩ | ⟨g', o', cap', h, h1, h2, h3, h4, h5, h6⟩⟩ := h
 · cases h
 · cases h
   have e1 : (cap - i) * sz = cap * sz - i * sz := Nat.sub_mul _ _ _; have e2 : i * sz ≤ cap * sz := Nat.mul_le_mul_right _ (by omega); refine ⟨by rw [List.length_drop, h0, Nat.sub_mul], .inr ⟨g, o + i * sz, _, rfl, h1, by omega, by omega, h4, fun j hj => ?_, fun j u hu => ?_⟩⟩
   · rw [show o + i * sz + j = o + (i * sz + j) by omega]
     exact h5 _ (by omega)
   · rw [show o + i * sz + j = o + (i * sz + j) by omega]
     exact h6 _ _ (by rwa [List.getElem?_drop] at hu)
theorem Win.drop' {g o cap : Nat} (h : Win w base sz (.slice (some ⟨g, o, none⟩) n cap) n cs) (i : Nat) (hi : i ≤ n) : Win w base sz (.slice (if cap = i then some ⟨g, o, none⟩ else some ⟨g, o + i * sz, none⟩) (n - i) (cap - i)) (n - i) (cs.drop (i * sz)) := by
 by_cases hc : cap = i
 · rw [if_pos hc]
   have hd := h.drop i hi; obtain ⟨h0, ⟨h, _⟩ | ⟨g', o', cap', h, h1, h2, h3, h4, h5, h6⟩⟩ := h
   · cases h
   · cases h
     obtain rfl : n = i := by omega
     subst hc; simp only [Nat.sub_self] at hd ⊢; refine ⟨hd.1, .inr ⟨g, o, 0, rfl, h1, Nat.le_refl _, Nat.zero_le _, h4, fun j hj => by omega, fun j u hu => ?_⟩⟩; have := hd.1; rw [Nat.zero_mul] at this; rw [List.eq_nil_of_length_eq_zero this] at hu; cases hu
 · rw [if_neg hc]; exact h.drop i hi
end
theorem rangeAt_append {w : World} {b o : Nat} {xs ys : List Value} (h1 : w.rangeAt b o xs) (h2 : w.rangeAt b (o + xs.length) ys) : w.rangeAt b o (xs ++ ys) := by
 intro j u hu; by_cases hj : j < xs.length
 · rw [List.getElem?_append_left hj] at hu
   exact h1 j u hu
 · rw [List.getElem?_append_right (by omega)] at hu
   have := h2 _ u hu; rwa [show o + xs.length + (j - xs.length) = o + j by omega] at this
theorem heap_block_setCells (b : Nat) : ∀ (vs : List Value) (o : Nat) (w : World), (w.setCells b o vs).heap.size = w.heap.size ∧ (w.setCells b o vs).os = w.os ∧ (w.setCells b o vs).tape = w.tape ∧ (w.setCells b o vs).output = w.output ∧ ∀ i, i ≠ b → (w.setCells b o vs).heap[i]? = w.heap[i]?
 | [], _, _ => ⟨rfl, rfl, rfl, rfl, fun _ _ => rfl⟩
 | v :: vs, o, w => by
   obtain ⟨h1, h2, h3, h4, h5⟩ := heap_block_setCells b vs (o + 1) (w.setCell ⟨b, o, none⟩ v); rw [World.setCells]; exact ⟨h1.trans (by simp [World.setCell]), h2, h3, h4, fun i hi => (h5 i hi).trans (Below.heap_setCell w _ v i (by exact fun e => hi e))⟩
theorem Keeps.setCells {S : Nat → Prop} {w w1 : World} (h : Keeps S w w1) (b o : Nat) (vs : List Value) (hp : S b ∨ w.heap.size ≤ b) : Keeps S w (w1.setCells b o vs) := by
 obtain ⟨h1, h2, h3, h4, h5⟩ := heap_block_setCells b vs o w1; refine ⟨h2.trans h.os, h3.trans h.tape, h4.trans h.output, by rw [h1]; exact h.size, fun i hi hs => (h5 i ?_).trans (h.block i hi hs)⟩; rintro rfl; rcases hp with hp | hp
 · exact hs hp
 · omega
theorem run_append_win {P : Program} (w : World) (base : Nat) (t tx ty e : TypeId) (i : TypeInfo) (z : Value) (sz bytes : Nat) (ht : P.underlying t = some (.slice e)) (hi : P.info? e = some i) (hz : i.zero = some z)
 (hsize : i.size = sz) (hby : i.bytes = bytes) (hzs : z.cells.size = sz) (v : Value) (n : Nat) (cs : List Value) (hown : Win w base sz v n cs)
 (x : Value) (m : Nat) (news : List Value) (hs : Src P sz tx x m news w) (h63 : n + m ≤ maxLen) (hbytes : (n + m) * bytes ≤ 140737488355328) (hbase : base ≤ w.heap.size) :
 ∃ v' w', (Builtin.append_ #[t, tx] ty #[v, x]).run P w = .ok v' w' ∧ Win w' base sz v' (n + m) (cs ++ news) ∧ Keeps (fun k => v.ownBlock = some k) w w' ∧ (v'.ownBlock = v.ownBlock ∨ v'.ownBlock = some w.heap.size) := by
 subst hsize; subst hby
 have hnl := hs.newsLen; have h63' : ((n + m : Nat) : Int) ≤ 9223372036854775807 := by simp only [maxLen] at h63; omega
 have hlen : (cs ++ news).length = (n + m) * i.size := by rw [List.length_append, hown.1, hnl, Nat.add_mul]
 have grown : ∀ (old : Nat), Win (w.drew.alloc (.cells ((cs ++ news).toArray ++ Builtin.zeroCells z.cells (grownCap w (n + m) old e - (n + m))) e)) base i.size
  (.slice (some ⟨w.heap.size, 0, none⟩) (n + m) (grownCap w (n + m) old e)) (n + m) (cs ++ news) := by
  intro old; have hge := grownCap_ge w (n + m) old e; have hcm := grownCap_le_maxLen w (n + m) old e h63
  have hnew : (w.drew.alloc (.cells ((cs ++ news).toArray ++ Builtin.zeroCells z.cells (grownCap w (n + m) old e - (n + m))) e)).heap[w.heap.size]? = some (.cells ((cs ++ news).toArray ++ Builtin.zeroCells z.cells (grownCap w (n + m) old e - (n + m))) e (0, 0)) :=
   World.alloc_heap_new w.drew _
  have hsz : ((cs ++ news).toArray ++ Builtin.zeroCells z.cells (grownCap w (n + m) old e - (n + m))).size = grownCap w (n + m) old e * i.size := by
   rw [Array.size_append, size_zeroCells, hzs, List.size_toArray, hlen, ← Nat.add_mul]; congr 1
   omega
  refine ⟨hlen, .inr ⟨w.heap.size, 0, _, rfl, hbase, hge, hcm, by simp, fun j hj => ⟨?_, ?_⟩, fun j u hu => ?_⟩⟩
  · simp only [World.cell?, hnew, Nat.zero_add]
    rw [Array.getElem?_eq_getElem (by omega)]; rfl
  · simp only [World.frozen?, hnew]; simp
  · simp only [World.cell?, hnew, Nat.zero_add]
    have hj : j < (cs ++ news).length := (List.getElem?_eq_some_iff.1 hu).1; rw [Array.getElem?_append_left (by simpa using hj)]; simpa using hu
 have grownK : ∀ (o : Obj) (S : Nat → Prop), Keeps S w (w.drew.alloc o) := fun o S => ((Keeps.refl S w).drew).alloc o
 rcases hown.2 with ⟨rfl, rfl⟩ | ⟨g, o, cap, rfl, hbg, hnc, hcm, hglt, hth, hra⟩
 · have hcs : cs = [] := List.eq_nil_of_length_eq_zero (by simpa using hown.1)
   subst hcs; by_cases hm : m = 0
   · subst hm
     have hn : news = [] := List.eq_nil_of_length_eq_zero (by simpa using hnl); subst hn; exact ⟨_, _, run_append_nothing w t tx ty e i ht hi none 0 0 (Nat.le_refl _) x hs, hown, Keeps.refl _ _, .inl rfl⟩
   · have hr := run_append_grow_src (P := P) w t tx ty e i z ht hi hz none 0 0 [] (run_firstCells_none w.drew i.size 0 0 0) x m news hs (by omega) h63' (growslice_fits (by omega) hbytes)
     exact ⟨_, _, hr, grown 0, grownK _ _, .inr rfl⟩
 · by_cases hroom : n + m ≤ cap
   · have hle : (n + m) * i.size ≤ cap * i.size := Nat.mul_le_mul_right _ hroom
     rw [Nat.add_mul] at hle
     have hth' : w.there g (o + n * i.size) news.length := fun j hj => by
      have := hth (n * i.size + j) (by omega); rwa [← Nat.add_assoc] at this
     have hr := run_append_room_src (P := P) w t tx ty e i ht hi g o n cap x m news hs hroom (fun j hj => (hth' j hj).1) (fun j hj => (hth' j hj).2); refine ⟨_, _, hr, ⟨hlen, .inr ⟨g, o, cap, rfl, hbg, hroom, hcm, by rw [(heap_block_setCells g news _ w).1]; exact hglt, World.there_setCells hth _ _ _, ?_⟩⟩, (Keeps.refl _ _).setCells _ _ _ (.inl rfl), .inl rfl⟩; refine rangeAt_append (World.rangeAt_setCells_apart hra g _ news (.inr (.inl (by rw [hown.1]; omega)))) ?_; rw [hown.1]; exact World.rangeAt_setCells_same w g _ news hth'
   · have hold : (Builtin.firstCells i.size n (.slice (some ⟨g, o, none⟩) n cap)).run P w.drew = .ok cs.toArray w.drew :=
      run_firstCells_some w.drew i.size n ⟨g, o, none⟩ n cap cs hown.1 (fun j u hu => by rw [Addr.add_lit]; exact hra j u hu)
     have hr := run_append_grow_src (P := P) w t tx ty e i z ht hi hz (some ⟨g, o, none⟩) n cap cs hold x m news hs (by omega) h63' (growslice_fits (by omega) hbytes); exact ⟨_, _, hr, grown cap, grownK _ _, .inr rfl⟩
theorem SrcCells.toSrc {P : Program} {w : World} {x : Value} {m sz : Nat} {news : List Value} {tx e' : TypeId} (h : SrcCells w x m news) (hk : P.underlying tx = some (.slice e')) (hl : news.length = m * sz) (h1 : ∀ u ∈ news, u.oneCell' = true) : Src P sz tx x m news w := by
 rcases h with ⟨rfl, rfl, rfl⟩ | ⟨ad, c, rfl, hc⟩
 · exact Src.ofNil w hk 0
 · exact Src.ofSlice w hk ad m c news hl hc h1
theorem Win.of_owns {w : World} {base : Nat} {e : TypeId} {sz : Nat} {v : Value} {n : Nat} {xs : List Value} (h : w.ownsRow base e sz v n xs) : Win w base sz v n xs := by
 rcases h.2 with ⟨h1, h2⟩ | ⟨g, cap, cur, h1, hb, hg, hnc, hcm, hcs, htake⟩
 · exact ⟨h.1, .inl ⟨h1, h2⟩⟩
 · subst h1
   have hlt := (Array.getElem?_eq_some_iff.1 hg).1; refine ⟨h.1, .inr ⟨g, 0, cap, rfl, hb, hnc, hcm, hlt, fun j hj => ⟨?_, ?_⟩, fun j u hu => ?_⟩⟩
   · simp only [World.cell?, hg, Nat.zero_add]
     rw [Array.getElem?_eq_getElem (by omega)]; rfl
   · simp [World.frozen?, hg]
   · have := h.cells (g := g) rfl j u hu
     rwa [Addr.add_lit] at this
theorem Win.src {w : World} {base sz n : Nat} {v : Value} {cs : List Value} (h : Win w base sz v n cs) : SrcCells w v n cs := by
 rcases h.2 with ⟨rfl, rfl⟩ | ⟨g, o, cap, rfl, _, _, _, _, _, h6⟩
 · exact .inl ⟨rfl, rfl, List.eq_nil_of_length_eq_zero (by simpa using h.1)⟩
 · exact .inr ⟨_, _, rfl, fun j u hu => by rw [Addr.add_lit]; exact h6 j u hu⟩
end
theorem infoU8 : (Tryz.prog.info? 5).map (fun i => (i.zero, i.size, i.bytes)) = some (some (.int .u8 0), 1, 1) := by kernel_rfl
theorem run_append_zeros {P : Program} (w : World) (t ti ty e : TypeId) (i : TypeInfo) (z : Value) (ht : P.underlying t = some (.slice e)) (hti : P.underlying ti = some (.int .i64)) (hi : P.info? e = some i) (hz : i.zero = some z)
 (hsize : i.size = 1) (hzs : z.cells.size = 1) (hby : i.bytes = 1) (n : Nat) (h0 : 0 < n) (hn : n ≤ 70368744177664) :
 ∃ cap w', (Builtin.append_ #[t, ti] ty #[.slice none 0 0, .int .i64 (n : Int)]).run P w = .ok (.slice (some ⟨w.heap.size, 0, none⟩) n cap) w' ∧
   w'.ownsRow w.heap.size e 1 (.slice (some ⟨w.heap.size, 0, none⟩) 0 cap) 0 [] ∧ w.grownBy w' none ∧ 0 < cap := by
 have hw : IntKind.i64.wrap (n : Int) = n := IntWalk.i64_in _ (by omega); have n1 : ¬ ((n : Int) < 0) := by omega
 have n2 : ¬ ((n : Int) * 1 > 2 ^ 48) := by omega
 have n2' : ¬ (281474976710656 < (n : Int)) := by omega
 have n3 : ¬ (9223372036854775807 < (n : Int)) := by omega
 have h48' : ¬ (281474976710656 < Builtin.nextslicecap n 0) := by rw [nextslicecap_zero h0]; omega
 have hnz : n ≠ 0 := by omega
 have hge := grownCap_ge w n 0 e; refine ⟨grownCap w n 0 e, w.drew.alloc (.cells (Builtin.zeroCells z.cells n ++ Builtin.zeroCells z.cells (grownCap w n 0 e - n)) e), ?_, ?_, ⟨rfl, rfl, rfl, by simp, fun k hk _ => Below.heap_alloc w.drew _ k hk⟩, by omega⟩
 · simp [Builtin.append_, run_underlying ht, run_underlying hti, sizeOf, typeInfo, zeroValue, hi, hz, hw, asInt, asIntOf, n1, n2', n3, hby, hsize, h48', hnz, Builtin.firstCells, Question.forced, newRow, grownCap]
 · refine World.ownsRow_made w.drew _ _ (Nat.le_refl _) (grownCap_le_maxLen w n 0 e (by simp [maxLen]; omega)) ?_
   simp [size_zeroCells, hzs]; omega
end Go.Proofs.YtoadjbgpfihoiaaGreatDoor
