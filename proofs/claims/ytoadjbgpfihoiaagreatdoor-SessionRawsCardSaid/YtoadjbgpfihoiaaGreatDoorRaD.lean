/- Texts Crc, Take, Sum, Bytes, Seal, Byt, SlEq, one behind the other. Conditions: as each says. -/
import Derived.Test.YtoadjbgpfihoiaaGreatDoorRaC
import Derived.Deep.AppendSrc
set_option linter.unusedVariables false
set_option linter.unusedSimpArgs false
set_option maxHeartbeats 8000000
set_option maxRecDepth 100000
namespace Go.Proofs.YtoadjbgpfihoiaaGreatDoor
open Go.RowKit
section
def wV (n : Nat) : Value := .int .u32 (n : Int)
def polyN : Nat := 3988292384
def tmN (n : Nat) : Nat := if n % 2 = 1 then n / 2 ^^^ polyN else n / 2
def tmK : Nat → Nat → Nat
 | 0, n => n
 | k + 1, n => tmN (tmK k n)
def crcB (n : Nat) (c : UInt8) : Nat := tmK 8 (n ^^^ c.toNat)
def crcL (n : Nat) (l : List UInt8) : Nat := l.foldl crcB n
def crcS (l : List UInt8) : Nat := 4294967295 - crcL 4294967295 l
def low4 (n : Nat) : List UInt8 := [UInt8.ofNat n, UInt8.ofNat (n / 256), UInt8.ofNat (n / 65536), UInt8.ofNat (n / 16777216)]
def sealL (l : List UInt8) : List UInt8 := l ++ low4 (crcS l)
theorem low4_len (n : Nat) : (low4 n).length = 4 := rfl
theorem sealL_len (l : List UInt8) : (sealL l).length = l.length + 4 := by unfold sealL; rw [List.length_append, low4_len]
def openL (l : List UInt8) : Option (List UInt8) := if l.length < 4 then none else if low4 (crcS (l.take (l.length - 4))) = l.drop (l.length - 4) then some (l.take (l.length - 4)) else none
theorem open_seal (l : List UInt8) : openL (sealL l) = some l := by
 unfold openL
 have h1 : (sealL l).length - 4 = l.length := by rw [sealL_len]; omega
 rw [if_neg (by rw [sealL_len]; omega), h1]
 unfold sealL
 rw [List.take_left' rfl, List.drop_left' rfl, if_pos rfl]
theorem tmN_lt {n : Nat} (h : n < 4294967296) : tmN n < 4294967296 := by
 unfold tmN polyN
 split
 · exact Nat.xor_lt_two_pow (n := 32) (by omega) (by omega)
 · omega
theorem tmK_lt {n : Nat} (h : n < 4294967296) : ∀ k, tmK k n < 4294967296
 | 0 => h
 | k + 1 => tmN_lt (tmK_lt h k)
theorem crcB_lt {n : Nat} (h : n < 4294967296) (c : UInt8) : crcB n c < 4294967296 := tmK_lt (Nat.xor_lt_two_pow (n := 32) (by omega) (by have := c.toNat_lt; omega)) 8
theorem crcL_lt {n : Nat} (h : n < 4294967296) : ∀ l : List UInt8, crcL n l < 4294967296 := by
 intro l
 induction l generalizing n with
 | nil => exact h
 | cons c l ih => rw [show crcL n (c :: l) = crcL (crcB n c) l by unfold crcL; rw [List.foldl_cons]]; exact ih (crcB_lt h c)
theorem crcS_lt (l : List UInt8) : crcS l < 4294967296 := Nat.lt_of_le_of_lt (Nat.sub_le _ _) (by decide)
theorem crcL_take {n : Nat} {l : List UInt8} {i : Nat} (hi : i < l.length) : crcL n (l.take (i + 1)) = crcB (crcL n (l.take i)) l[i] := by
 unfold crcL
 rw [List.take_succ_eq_append_getElem hi, List.foldl_append, List.foldl_cons, List.foldl_nil]
theorem ofInt32 {n : Nat} (h : n < 4294967296) : (BitVec.ofInt 32 (n : Int)).toNat = n := by
 rw [BitVec.ofInt_natCast, BitVec.toNat_ofNat]
 exact Nat.mod_eq_of_lt (by omega)
theorem xor_u32 {a b : Nat} (ha : a < 4294967296) (hb : b < 4294967296) : bits .xor .u32 (a : Int) (b : Int) = ((a ^^^ b : Nat) : Int) := by
 show IntKind.u32.wrap ((BitVec.ofInt 32 (a : Int) ^^^ BitVec.ofInt 32 (b : Int)).toNat : Int) = _
 rw [BitVec.toNat_xor, ofInt32 ha, ofInt32 hb]
 have := Nat.xor_lt_two_pow (n := 32) ha hb
 simp [IntKind.wrap, IntKind.bits, IntKind.signed]
 omega
theorem and1_u32 {a : Nat} (ha : a < 4294967296) : bits .and .u32 (a : Int) 1 = ((a % 2 : Nat) : Int) := by
 show IntKind.u32.wrap ((BitVec.ofInt 32 (a : Int) &&& BitVec.ofInt 32 ((1 : Nat) : Int)).toNat : Int) = _
 rw [BitVec.toNat_and, ofInt32 ha, ofInt32 (by decide), Nat.and_one_is_mod]
 simp [IntKind.wrap, IntKind.bits, IntKind.signed]
 omega
theorem not_u32 {a : Nat} (ha : a < 4294967296) : bits .xor .u32 IntKind.u32.max (a : Int) = ((4294967295 - a : Nat) : Int) := by
 show IntKind.u32.wrap ((BitVec.ofInt 32 ((4294967295 : Nat) : Int) ^^^ BitVec.ofInt 32 (a : Int)).toNat : Int) = _
 rw [BitVec.toNat_xor, ofInt32 ha, ofInt32 (by decide)]
 have h : (4294967295 : Nat) ^^^ a = 4294967295 - a := by
  have h1 : (BitVec.allOnes 32 ^^^ BitVec.ofNat 32 a).toNat = 4294967295 - a := by
   rw [BitVec.allOnes_xor, BitVec.toNat_not, BitVec.toNat_ofNat, Nat.mod_eq_of_lt (by omega)]
  rw [BitVec.toNat_xor, BitVec.toNat_allOnes, BitVec.toNat_ofNat, Nat.mod_eq_of_lt (by omega)] at h1
  exact h1
 rw [h]
 simp [IntKind.wrap, IntKind.bits, IntKind.signed]
 omega
end
section
def topN : Nat := 4611686018427387904
def numF : Nat → Nat → List UInt8
 | 0, n => [UInt8.ofNat n]
 | f + 1, n => if 128 ≤ n then UInt8.ofNat (n % 128 + 128) :: numF f (n / 128) else [UInt8.ofNat n]
def numL (n : Nat) : List UInt8 := numF 9 n
def takeG : Nat → Nat → List UInt8 → Nat × Int
 | i, _, [] => (0, if 9 ≤ i then -1 else 0)
 | i, n, c :: l => if i = 9 then (0, -1) else
   if c.toNat < 128 then (if (0 < i ∧ c.toNat = 0) ∨ topN < n + c.toNat % 128 * 128 ^ i then (0, -1) else (n + c.toNat % 128 * 128 ^ i, (i : Int) + 1))
   else takeG (i + 1) (n + c.toNat % 128 * 128 ^ i) l
def takeL (l : List UInt8) : Nat × Int := takeG 0 0 l
theorem byte_ofNat {n : Nat} (h : n < 256) : (UInt8.ofNat n).toNat = n := by
 rw [UInt8.toNat_ofNat']; exact Nat.mod_eq_of_lt h
theorem takeG_cons (i n : Nat) (c : UInt8) (l : List UInt8) : takeG i n (c :: l) = if i = 9 then (0, -1) else
 if c.toNat < 128 then (if (0 < i ∧ c.toNat = 0) ∨ topN < n + c.toNat % 128 * 128 ^ i then (0, -1) else (n + c.toNat % 128 * 128 ^ i, (i : Int) + 1))
 else takeG (i + 1) (n + c.toNat % 128 * 128 ^ i) l := rfl
theorem takeG_nine (n : Nat) (l : List UInt8) : takeG 9 n l = (0, -1) := by
 cases l with
 | nil => rfl
 | cons c l => simp [takeG]
theorem takeG_spec : ∀ (l : List UInt8) (i n : Nat), i ≤ 9 → (takeG i n l).1 ≤ topN ∧ (takeG i n l).2 ≤ 9 ∧ ((takeG i n l).2 ≤ 0 → (takeG i n l).1 = 0) ∧ -1 ≤ (takeG i n l).2 ∧ (takeG i n l).2 ≤ (i : Int) + l.length ∧ ((takeG i n l).2 = 0 → (i : Int) + l.length < 9)
 ∧ (0 < (takeG i n l).2 → (i : Int) < (takeG i n l).2)
 | [], i, n, hi => by
   unfold takeG
   split
   · exact ⟨Nat.zero_le _, by decide, fun _ => rfl, by decide, by rw [List.length_nil]; omega, by simp, by simp⟩
   · exact ⟨Nat.zero_le _, by decide, fun _ => rfl, by decide, by simp, by simp; omega, by simp⟩
 | c :: l, i, n, hi => by
   unfold takeG
   split
   · exact ⟨Nat.zero_le _, by decide, fun _ => rfl, by decide, by rw [List.length_cons]; omega, by simp, by simp⟩
   · split
     · split
       · exact ⟨Nat.zero_le _, by decide, fun _ => rfl, by decide, by rw [List.length_cons]; omega, by simp, by simp⟩
       · rename_i h1 h2 h3
         refine ⟨by dsimp only; omega, by dsimp only; omega, fun h => ?_, by dsimp only; omega, by dsimp only; rw [List.length_cons]; omega, fun h => ?_, fun h => by dsimp only; omega⟩
         · dsimp only at h; omega
         · dsimp only at h; omega
     · rename_i h1 h2
       obtain ⟨a1, a2, a3, a4, a5, a6, a7⟩ := takeG_spec l (i + 1) (n + c.toNat % 128 * 128 ^ i) (by omega)
       refine ⟨a1, a2, a3, a4, ?_, fun h => ?_, fun h => ?_⟩
       · rw [List.length_cons]; omega
       · have := a6 h; rw [List.length_cons]; omega
       · have := a7 h; omega
theorem takeL_le (l : List UInt8) : (takeL l).1 ≤ topN := (takeG_spec l 0 0 (by omega)).1
theorem takeL_k (l : List UInt8) : -1 ≤ (takeL l).2 ∧ (takeL l).2 ≤ 9 ∧ (takeL l).2 ≤ l.length := by
 have h := takeG_spec l 0 0 (by omega)
 refine ⟨h.2.2.2.1, h.2.1, ?_⟩
 have := h.2.2.2.2.1
 rw [Int.natCast_zero, Int.zero_add] at this
 exact this
theorem numF_more : ∀ (f n : Nat), n < 128 ^ (f + 1) → numF (f + 1) n = numF f n
 | 0, n, h => by
   unfold numF
   rw [if_neg (by rw [Nat.zero_add, Nat.pow_one] at h; omega)]
 | f + 1, n, h => by
   have h1 : n / 128 < 128 ^ (f + 1) := by rw [Nat.pow_succ] at h; omega
   conv => lhs; unfold numF
   conv => rhs; unfold numF
   rw [numF_more f (n / 128) h1]
theorem numL_step {n : Nat} (h : n < 9223372036854775808) : numL n = if 128 ≤ n then UInt8.ofNat (n % 128 + 128) :: numL (n / 128) else [UInt8.ofNat n] := by
 have h1 : n / 128 < 128 ^ 9 := by omega
 unfold numL
 rw [numF_more 8 (n / 128) h1]
 rfl
theorem numF_len : ∀ (f n : Nat), 1 ≤ (numF f n).length ∧ (numF f n).length ≤ f + 1
 | 0, n => by simp [numF]
 | f + 1, n => by
   unfold numF
   split
   · have := numF_len f (n / 128)
     rw [List.length_cons]; omega
   · simp
theorem numL_len (n : Nat) : 1 ≤ (numL n).length ∧ (numL n).length ≤ 10 := numF_len 9 n
theorem takeG_num : ∀ (f i acc n : Nat) (r : List UInt8), n < 128 ^ (f + 1) → i + f ≤ 8 → acc + n * 128 ^ i ≤ topN → (0 < i → n ≠ 0) → takeG i acc (numF f n ++ r) = (acc + n * 128 ^ i, (i : Int) + (numF f n).length)
 | 0, i, acc, n, r, h, hi, ht, h0 => by
   have hn : n < 128 := by simpa using h
   have h1 : (UInt8.ofNat n).toNat = n := byte_ofNat (by omega)
   unfold numF
   rw [List.singleton_append, takeG_cons, if_neg (by omega)]
   simp only [h1]
   rw [if_pos hn, Nat.mod_eq_of_lt hn, if_neg (by omega)]
   rfl
 | f + 1, i, acc, n, r, h, hi, ht, h0 => by
   unfold numF
   split
   · rename_i hb
     have h1 : (UInt8.ofNat (n % 128 + 128)).toNat = n % 128 + 128 := byte_ofNat (by omega)
     rw [List.cons_append, takeG_cons, if_neg (by omega)]
     simp only [h1]
     have he : acc + (n % 128 + 128) % 128 * 128 ^ i + n / 128 * 128 ^ (i + 1) = acc + n * 128 ^ i := by
      have h2 : n = n % 128 + n / 128 * 128 := by omega
      have h3 : (n % 128 + 128) % 128 = n % 128 := by omega
      rw [h3, Nat.pow_succ, Nat.add_assoc]
      congr 1
      conv => rhs; rw [h2, Nat.add_mul]
      rw [Nat.mul_assoc, Nat.mul_comm (128 ^ i) 128]
     rw [if_neg (by omega), takeG_num f (i + 1) _ (n / 128) r (by rw [Nat.pow_succ] at h; omega) (by omega) (by rw [he]; exact ht) (fun _ => by omega), he, List.length_cons]
     congr 1
     omega
   · rename_i hb
     have h1 : (UInt8.ofNat n).toNat = n := byte_ofNat (by omega)
     rw [List.singleton_append, takeG_cons, if_neg (by omega)]
     simp only [h1]
     rw [if_pos (by omega), Nat.mod_eq_of_lt (by omega), if_neg (by omega)]
     rfl
theorem takeL_num {n : Nat} (h : n ≤ topN) (r : List UInt8) : takeL (numL n ++ r) = (n, ((numL n).length : Int)) := by
 have h0 : n < 128 ^ 9 := by unfold topN at h; omega
 unfold takeL numL
 rw [numF_more 8 n h0]
 have := takeG_num 8 0 0 n r h0 (by omega) (by simpa using h) (by omega)
 simpa using this
structure Rdr where
 b : List UInt8
 e : Int
def Rdr.bad : Rdr := ⟨[], 120⟩
def Rdr.num (r : Rdr) (g : Int) : Rdr × Nat × Int :=
 if r.e ≠ 0 then (r, 0, r.e) else if g < 0 then (r, 0, 2) else
 if 0 < (takeL r.b).2 ∧ ((takeL r.b).1 : Int) ≤ g then (⟨r.b.drop (takeL r.b).2.toNat, 0⟩, (takeL r.b).1, 0) else (Rdr.bad, 0, 120)
def Rdr.txt (r : Rdr) (g : Int) : Rdr × List UInt8 × Int :=
 if (r.num g).2.2 ≠ 0 then ((r.num g).1, [], (r.num g).2.2) else
 if (r.num g).2.1 ≤ (r.num g).1.b.length then (⟨(r.num g).1.b.drop (r.num g).2.1, 0⟩, (r.num g).1.b.take (r.num g).2.1, 0) else (Rdr.bad, [], 120)
def Rdr.tru (r : Rdr) : Rdr × Bool × Int :=
 if r.e ≠ 0 then (r, false, r.e) else match r.b with
 | [] => (Rdr.bad, false, 120)
 | c :: l => if c.toNat ≤ 1 then (⟨l, 0⟩, c.toNat == 1, 0) else (Rdr.bad, false, 120)
def Rdr.fin (r : Rdr) : Rdr × Int := if r.e ≠ 0 then (r, r.e) else if r.b = [] then (r, 0) else (Rdr.bad, 120)
def txtL (s : List UInt8) : List UInt8 := numL s.length ++ s
def truL (b : Bool) : List UInt8 := [if b then 1 else 0]
def frameL (l : List UInt8) : List UInt8 := numL (l.length + 4) ++ sealL l
def splitL (l : List UInt8) : List UInt8 × Nat × Int :=
 if (takeL l).2 = 0 then ([], 0, 0) else if (takeL l).2 < 0 ∨ (takeL l).1 < 4 ∨ 4100 < (takeL l).1 then ([], 0, 121) else
 if l.length < (takeL l).2.toNat + (takeL l).1 then ([], 0, 0) else
 match openL ((l.drop (takeL l).2.toNat).take (takeL l).1) with
 | none => ([], 0, 110)
 | some m => (m, (takeL l).2.toNat + (takeL l).1, 0)
end
section
theorem Bytes.at {w : World} {A : Nat → Prop} {l : List UInt8} {a : Option Addr} {c : Nat} (h : Bytes w A (.slice a l.length c) l) (k : Nat) (hk : k < l.length) :
 ∃ g o, a = some ⟨g, o, none⟩ ∧ A g ∧ g < w.heap.size ∧ w.cell? ⟨g, o + k, none⟩ = some (.int .u8 (l[k].toNat : Int)) := by
 rcases h with ⟨a', h1, h2⟩ | ⟨b, o, c', h1, h2, h3, h4⟩
 · subst h2; simp at hk
 · cases h1
   have := h4 k hk
   unfold ByteAt at this
   rw [Nat.mul_one] at this
   exact ⟨b, o, rfl, h3, World.block_lt_of_cell? _ _ this, this⟩
theorem Upd.mono {F G : Nat → Prop} {w0 w : World} {r : Res} (h : Upd F w0 w r) (hs : ∀ k, F k → G k) : Upd G w0 w r :=
 let ⟨F', h1, h2, h3⟩ := h
 ⟨F', h1, h2.mono fun k _ => hs k, fun k hk => (h3 k hk).imp (hs k) id⟩
theorem times_any (w : World) (b n : Nat) (hn : n < 4294967296) (hb : Box w b 348 [wV n]) :
 Calls Tryz.prog 305 #[.pointer (some ⟨b, 0, none⟩)] w fun e w' => e = .returned (.tuple #[]) ∧ w' = w.setCell ⟨b, 0, none⟩ (wV (tmN n)) := by
 have HB := Lib.hid hb
 have HN := Lib.hid hn
 have hand := and1_u32 hn
 clear hb hn
 unfold wV at HB
 rcases Nat.mod_two_eq_zero_or_one n with h2 | h2
 · have hx : bits .xor .u32 ((n : Int) / 2) 0 = ((n / 2 : Nat) : Int) := by
    have := xor_u32 (a := n / 2) (b := 0) (by have := HN.out; omega) (by decide)
    rw [Nat.xor_zero] at this
    exact this
   have ht : tmN n = n / 2 := by unfold tmN; rw [if_neg (by omega)]
   have HT := Lib.hid ht
   rw [h2] at hand
   rw [← ht] at hx
   clear h2 ht
   go_enter Tryz.func305, Tryz.ntmps305
   obtain ⟨cHB, zHB⟩ := HB.out.reads
   have lHB := HB.out.lt
   go_wp2_with fail
   go_end0
   refine ⟨rfl, ?_⟩
   unfold wV
   rfl
 · have hx : bits .xor .u32 ((n : Int) / 2) 3988292384 = ((n / 2 ^^^ polyN : Nat) : Int) := xor_u32 (a := n / 2) (b := polyN) (by have := HN.out; omega) (by decide)
   have ht : tmN n = n / 2 ^^^ polyN := by unfold tmN; rw [if_pos h2]
   have HT := Lib.hid ht
   rw [h2] at hand
   rw [← ht] at hx
   clear h2 ht
   go_enter Tryz.func305, Tryz.ntmps305
   obtain ⟨cHB, zHB⟩ := HB.out.reads
   have lHB := HB.out.lt
   go_wp2_with fail
   go_end0
   refine ⟨rfl, ?_⟩
   unfold wV
   rfl
theorem take1_any (w : World) (k b n : Nat) (c : UInt8) (hn : n < 4294967296) (hk : Box w k 350 [.pointer (some ⟨b, 0, none⟩)]) (hb : Box w b 348 [wV n]) :
 Calls Tryz.prog 303 #[.int .u8 (c.toNat : Int), .pointer (some ⟨k, 0, none⟩)] w fun e w' => e = .returned (.tuple #[]) ∧ w' = w.setCell ⟨b, 0, none⟩ (wV (n ^^^ c.toNat)) := by
 have HB := Lib.hid hb
 have HK := Lib.hid hk
 have hc := c.toNat_lt
 have hx := xor_u32 (a := n) (b := c.toNat) hn (by omega)
 have HX := Lib.hid hx
 have hw : IntKind.u32.wrap (c.toNat : Int) = (c.toNat : Int) := by simp [IntKind.wrap, IntKind.bits, IntKind.signed]; omega
 clear hb hk hn
 unfold wV at HB
 go_enter Tryz.func303, Tryz.ntmps303
 obtain ⟨cHB, zHB⟩ := HB.out.reads
 have lHB := HB.out.lt
 obtain ⟨cHK, zHK⟩ := HK.out.reads
 have lHK := HK.out.lt
 go_wp2_with fail
 go_end0
 refine ⟨rfl, ?_⟩
 unfold wV
 rfl
theorem take2_any (w : World) (k b n : Nat) (c : Value) (hn : n < 4294967296) (hk : Box w k 350 [.pointer (some ⟨b, 0, none⟩)]) (hb : Box w b 348 [wV n]) (hkb : k ≠ b) :
 Calls Tryz.prog 304 #[c, .pointer (some ⟨k, 0, none⟩)] w fun e w' => e = .returned (.tuple #[]) ∧ Upd (OneB b) w w' (cellsR b 348 [wV (tmK 8 n)]) := by
 have HM := Lib.hid (Mem.start (F := OneB b) (r := cellsR b 348 [wV n]) ⟨fun _ => Iff.rfl, hb⟩)
 have HK := Lib.hid hk
 have HN := Lib.hid hn
 have HKB := Lib.hid hkb
 clear hb hk hn hkb
 go_enter Tryz.func304, Tryz.ntmps304
 go_wp2_with fail
 go_loopw [3] (fun i wr => ∃ j : Nat, j ≤ 8 ∧ i = .int .i64 j ∧ Hid (Mem (OneB b) w wr [cellsR b 348 [wV (tmK j n)]])) (fun i _ => 8 - (intOf i).toNat)
 case atStart => exact ⟨0, Nat.zero_le _, rfl, HM⟩
 case round =>
  clear HM
  obtain ⟨j, hj, rfl, HM⟩ := hrel
  by_cases hlt : j < 8
  · have g1 : (j : Int) < 8 := by omega
    have hk := HK.out.keeps HM.out.keepsTo HKB.out
    have HK1 := Lib.hid hk
    clear hk
    obtain ⟨cHK1, zHK1⟩ := HK1.out.reads
    have lHK1 := HK1.out.lt
    go_wp2_with fail
    clear cHK1 zHK1 lHK1
    obtain ⟨Ahb, hb⟩ := HM.out.get (r := cellsR b 348 [wV (tmK j n)]) pk
    refine (times_any _ b _ (tmK_lt HN.out j) hb.2).mono ?_
    rintro e w' ⟨rfl, rfl⟩
    clear hb
    go_wp2_with fail
    go_roundw
    case rel => exact ⟨j + 1, by omega, by go_num, Lib.hid HM.out.to⟩
    case measure => simp [intOf]; omega
  · obtain rfl : j = 8 := by omega
    go_wp2_with fail
    go_end0
    exact ⟨rfl, HM.out.upd⟩
theorem take_any {A : Nat → Prop} (w : World) (b n : Nat) (v : Value) (l : List UInt8) (hl : l.length ≤ 70368744177664) (hn : n < 4294967296) (hb : Box w b 348 [wV n]) (h : Bytes w A v l) (hA : ¬ A b) :
 Calls Tryz.prog 301 #[.pointer (some ⟨b, 0, none⟩), v] w fun e w' => e = .returned (.tuple #[]) ∧ Upd (OneB b) w w' (cellsR b 348 [wV (crcL n l)]) := by
 obtain ⟨a, c, rfl⟩ := h.len
 have HM := Lib.hid (Mem.start (F := OneB b) (r := cellsR b 348 [wV n]) ⟨fun _ => Iff.rfl, hb⟩)
 have HB := Lib.hid h
 have HN := Lib.hid hn
 have HA := Lib.hid (show ∀ k, A k → ¬ OneB b k from fun k hk e => hA (by rw [← show k = b from e]; exact hk))
 have HBL := Lib.hid hb.lt
 clear h hb hn hA
 go_enter Tryz.func301, Tryz.ntmps301
 go_wp2_with fail
 refine nxt HM fun w1 M => ?_
 clear HM; have HM := M; clear M
 obtain ⟨k, hk⟩ : ∃ k, w.heap.size = k := ⟨_, rfl⟩
 obtain ⟨q, hq⟩ : ∃ q, k + 1 = q := ⟨_, rfl⟩
 have HKQ := Lib.hid (show k ≠ b ∧ k ≠ q from ⟨by have := HBL.out; omega, by omega⟩)
 rw [hk, hq]
 rw [hk, hq] at HM
 clear hk hq
 go_loopw [14] (fun i wr => ∃ j : Nat, j ≤ l.length ∧ i = .int .i64 j ∧ Hid (Mem (OneB b) w wr [cellsR q 351 [.func (.func 303) #[] #[.pointer (some ⟨k, 0, none⟩)], .func (.func 304) #[] #[.pointer (some ⟨k, 0, none⟩)]], cellsR k 350 [.pointer (some ⟨b, 0, none⟩)], cellsR b 348 [wV (crcL n (l.take j))]])) (fun i _ => l.length - (intOf i).toNat)
 case atStart => exact ⟨0, Nat.zero_le _, rfl, HM⟩
 case round =>
  clear HM
  obtain ⟨j, hj, rfl, HM⟩ := hrel
  by_cases hlt : j < l.length
  · have g1 : (j : Int) < l.length := by omega
    have g2 : ¬ (j : Int) < 0 := by omega
    obtain ⟨g, o, rfl, -, hg, hc⟩ := (HB.out.keeps HM.out.keepsTo HA.out).at j hlt
    have HS := Lib.hid (show crcL n (l.take (j + 1)) = tmK 8 (crcL n (l.take j) ^^^ l[j].toNat) from crcL_take hlt)
    obtain ⟨x, hx⟩ : ∃ x, l[j] = x := ⟨_, rfl⟩
    rw [hx] at hc HS
    clear hx
    obtain ⟨m, hm⟩ : ∃ m, crcL n (l.take j) = m := ⟨_, rfl⟩
    have HL := Lib.hid (show m < 4294967296 by rw [← hm]; exact crcL_lt HN.out _)
    rw [hm] at HM HS
    clear hm
    have fM := HM.out.fa
    go_wp2_with fail
    all_goals clear fM
    refine wp_loop_rounds 3 ?_
    rw [rounds_succ]
    clear hc
    have fM := HM.out.fa
    go_wp2_with fail
    all_goals clear fM
    refine nxt HM fun w2 M => ?_
    clear HM; have HM := M; clear M
    obtain ⟨Ahb, hb⟩ := HM.out.get (r := cellsR b 348 [wV m]) pk
    obtain ⟨Ahk, hk⟩ := HM.out.get (r := cellsR k 350 [.pointer (some ⟨b, 0, none⟩)]) pk
    refine (take1_any w2 k b m x HL.out hk.2 hb.2).mono ?_
    rintro e w' ⟨rfl, rfl⟩
    clear hb hk
    go_wp2_with fail
    refine nxt HM fun w3 M => ?_
    clear HM; have HM := M; clear M
    rw [rounds_succ]
    have fM := HM.out.fa
    go_wp2_with fail
    all_goals clear fM
    refine nxt HM fun w4 M => ?_
    clear HM; have HM := M; clear M
    obtain ⟨Ahk, hk⟩ := HM.out.get (r := cellsR k 350 [.pointer (some ⟨b, 0, none⟩)]) pk
    obtain ⟨B, hB, hS⟩ := (HM.out.pick (r := cellsR b 348 [wV (m ^^^ x.toNat)]) pk).step
    refine (take2_any w4 k b (m ^^^ x.toNat) _ (Nat.xor_lt_two_pow (n := 32) HL.out (by have := x.toNat_lt; omega)) hk.2 hB.2 HKQ.out.1).mono ?_
    rintro e w5 ⟨rfl, hU⟩
    replace HM := Lib.hid (hS _ _ (hU.mono fun k h => (hB.1 k).2 h))
    clear hU hS hk hB
    rw [← HS.out] at HM
    go_wp2_with fail
    rw [rounds_succ]
    go_wp2_with fail
    go_roundw
    case rel => exact ⟨j + 1, by omega, by go_num, Lib.hid (Mem.sub HM.out sb)⟩
    case measure => simp [intOf]; omega
  · obtain rfl : j = l.length := by omega
    rw [List.take_length] at HM
    go_wp2_with fail
    go_end0
    exact ⟨rfl, (HM.out.pick (r := cellsR b 348 [wV (crcL n l)]) pk).upd⟩
theorem more_any {A : Nat → Prop} (w : World) (s : Nat) (v : Value) (l : List UInt8) (hl : l.length ≤ 70368744177664) (hs : s < 4294967296) (h : Bytes w A v l) (hA : ∀ k, A k → k < w.heap.size) :
 Calls Tryz.prog 291 #[wV s, v] w fun e w' => e = .returned (wV (4294967295 - crcL (4294967295 - s) l)) ∧ Ext w w' := by
 have HM := Lib.hid (Mem.start0 w)
 have HB := Lib.hid h
 have HA := Lib.hid hA
 have hx := not_u32 hs
 have HLL := Lib.hid hl
 have hn : 4294967295 - s < 4294967296 := by omega
 have HN := Lib.hid hn
 clear h hs hA hl
 unfold wV
 go_enter Tryz.func291, Tryz.ntmps291
 go_wp2_with fail
 obtain ⟨b, hb⟩ : ∃ b, w.heap.size = b := ⟨_, rfl⟩
 have HBE := Lib.hid hb
 rw [hb]
 clear hb hx
 refine nxt HM fun w1 M => ?_
 clear HM; have HM := M; clear M
 rw [HBE.out] at HM
 obtain ⟨B, hB, hS⟩ := HM.out.step
 refine (take_any w1 b (4294967295 - s) v l HLL.out HN.out hB.2 (HB.out.ext HM.out.extTo) (fun k => by have := HA.out _ k; have := HBE.out; omega)).mono ?_
 rintro e w2 ⟨rfl, hU⟩
 replace HM := Lib.hid (hS _ _ (hU.mono fun k h => (hB.1 k).2 h))
 clear hU hS hB
 obtain ⟨m, hm⟩ : ∃ m, crcL (4294967295 - s) l = m := ⟨_, rfl⟩
 have hl : m < 4294967296 := by rw [← hm]; exact crcL_lt HN.out _
 have hy := not_u32 hl
 rw [hm] at HM
 have HQ := Lib.hid hm
 unfold wV at HM
 clear hm hl
 have fM := HM.out.fa
 go_wp2_with fail
 all_goals clear fM
 go_ret
 rw [HQ.out]
 exact ⟨rfl, HM.out.extTo⟩
theorem sum_any {A : Nat → Prop} (w : World) (q : Nat) (v : Value) (l : List UInt8) (hl : l.length ≤ 70368744177664) (hq : Box w q 27 [v]) (h : Bytes w A v l) (hA : ∀ k, A k → k < w.heap.size) :
 Calls Tryz.prog 274 #[.slice (some ⟨q, 0, none⟩) 1 1] w fun e w' => e = .returned (wV (crcS l)) ∧ Ext w w' := by
 have HB := Lib.hid h
 have HA := Lib.hid hA
 have HQ := Lib.hid hq
 have HLL := Lib.hid hl
 clear h hA hq hl
 obtain ⟨a, c, rfl⟩ := HB.out.len
 go_enter Tryz.func274, Tryz.ntmps274
 obtain ⟨cHQ, zHQ⟩ := HQ.out.reads
 have lHQ := HQ.out.lt
 go_wp2_with fail
 refine wp_loop_rounds 2 ?_
 rw [rounds_succ]
 go_wp2_with fail
 clear cHQ zHQ lHQ
 refine (more_any w 0 _ l HLL.out (by decide) HB.out HA.out).mono ?_
 rintro e w1 ⟨rfl, hE⟩
 have HE := Lib.hid hE
 clear hE
 go_wp2_with fail
 rw [rounds_succ]
 go_wp2_with fail
 go_ret
 exact ⟨rfl, HE.out⟩
theorem low4_cells (n : Nat) : (low4 n).map byV = [.int .u8 ((n : Int) % 256), .int .u8 ((n : Int) / 256 % 256), .int .u8 ((n : Int) / 65536 % 256), .int .u8 ((n : Int) / 16777216 % 256)] := by
 have h : ∀ m : Nat, byV (UInt8.ofNat m) = .int .u8 ((m : Int) % 256) := fun m => by
  unfold byV
  rw [UInt8.toNat_ofNat']
  rfl
 simp only [low4, List.map_cons, List.map_nil, h, Int.natCast_ediv]
 rfl
theorem low_any (w : World) (n : Nat) (hn : n < 4294967296) :
 Calls Tryz.prog 273 #[wV n] w fun e w' => e = .returned (.slice (some ⟨w.heap.size, 0, none⟩) 4 4) ∧ Box w' w.heap.size 5 ((low4 n).map byV) ∧ Ext w w' := by
 obtain ⟨w1, hr, hb, hE, hs⟩ := make_bytes w 4 (by decide) 4 rfl
 have HM := Lib.hid ((Mem.start0 w).new (r := cellsR w.heap.size 5 ((List.replicate 4 (0 : UInt8)).map byV)) (G := fun k => k = w.heap.size) hE ⟨fun _ => Iff.rfl, hb⟩ (fun k hk => by omega))
 have HN := Lib.hid hn
 clear hb hE hs hn
 unfold wV
 simp only [List.replicate, List.map_cons, List.map_nil, byV] at HM
 go_enter Tryz.func273, Tryz.ntmps273
 go_wp2_with fail
 obtain ⟨b, hb⟩ : ∃ b, w.heap.size = b := ⟨_, rfl⟩
 rw [hb]
 rw [hb] at HM
 have HBE := Lib.hid hb
 clear hb hr
 refine wp_loop_rounds 5 ?_
 rw [rounds_succ]
 have fM := HM.out.fa
 go_wp2_with fail
 all_goals clear fM
 refine nxt HM fun w2 M => ?_
 clear HM; have HM := M; clear M
 rw [rounds_succ]
 have fM := HM.out.fa
 go_wp2_with fail
 all_goals clear fM
 refine nxt HM fun w2 M => ?_
 clear HM; have HM := M; clear M
 rw [rounds_succ]
 have fM := HM.out.fa
 go_wp2_with fail
 all_goals clear fM
 refine nxt HM fun w2 M => ?_
 clear HM; have HM := M; clear M
 rw [rounds_succ]
 have fM := HM.out.fa
 go_wp2_with fail
 all_goals clear fM
 refine nxt HM fun w2 M => ?_
 clear HM; have HM := M; clear M
 rw [rounds_succ]
 have fM := HM.out.fa
 go_wp2_with fail
 all_goals clear fM
 go_ret
 rw [HBE.out]
 refine ⟨rfl, ?_, HM.out.extTo⟩
 rw [low4_cells]
 obtain ⟨Ahb, hb⟩ := HM.out.get (r := cellsR b 5 [.int .u8 ((n : Int) % 256), .int .u8 ((n : Int) / 256 % 256), .int .u8 ((n : Int) / 65536 % 256), .int .u8 ((n : Int) / 16777216 % 256)]) pk
 exact hb.2
end
section
theorem grow_any (n : Nat) (w : World) (hn : n ≤ 70368744177664) :
 Calls Tryz.prog 182 #[.slice none 0 0, .int .i64 (n : Int)] w fun e w' =>
  ∃ v', e = .returned v' ∧ w'.ownsRow w.heap.size 5 1 v' 0 [] ∧ Ext w w' := by
 obtain ⟨i0, hi, hz0, hz1, hz2⟩ := info_parts infoU8
 rcases Nat.eq_zero_or_pos n with h0 | h0
 · subst h0
   go_enter Tryz.func182, Tryz.ntmps182
   go_wp2
   go_ret
   exact ⟨_, rfl, World.ownsRow_nil _ _ _ _, Keeps.refl _ _⟩
 · obtain ⟨cap, w', hr, ho, hg, hc⟩ := run_append_zeros (P := Tryz.prog) w 27 3 27 5 i0 _ Tryz.underlying27 Tryz.underlying3 hi hz0 hz1 rfl hz2 n h0 hn
   have hc0 : (cap = 0) = False := by simp; omega
   have H : Hid (w'.ownsRow w.heap.size 5 1 (.slice (some ⟨w.heap.size, 0, none⟩) 0 cap) 0 []) := ho
   have HG : Hid (w.grownBy w' none) := hg
   clear ho hg
   go_enter Tryz.func182, Tryz.ntmps182
   go_wp2_with (at_builtin; refine wpList_append_ran rfl _ _ hr rfl rfl rfl ?_)
   go_ret
   exact ⟨_, rfl, H.out, Keeps.grown (Keeps.refl _ _) HG.out (fun k e => by cases e)⟩
def sumLen (ls : List (List UInt8)) : Nat := (ls.map List.length).sum
theorem sumLen_take_succ (ls : List (List UInt8)) (k : Nat) (h : k < ls.length) : sumLen (ls.take (k + 1)) = sumLen (ls.take k) + ls[k].length := by
 unfold sumLen; rw [List.take_succ_eq_append_getElem h, List.map_append, List.sum_append]; simp
theorem sumLen_take_le (ls : List (List UInt8)) (k : Nat) : sumLen (ls.take k) ≤ sumLen ls := by
 conv => rhs; rw [← List.take_append_drop k ls]
 unfold sumLen; rw [List.map_append, List.sum_append]; omega
theorem flat_take_succ (ls : List (List UInt8)) (k : Nat) (h : k < ls.length) : (ls.take (k + 1)).flatten = (ls.take k).flatten ++ ls[k] := by
 rw [List.take_succ_eq_append_getElem h, List.flatten_append]; simp
set_option maxHeartbeats 1000000 in
theorem concat_some (A : Nat → Prop) (b o n c : Nat) (ls : List (List UInt8)) (w : World) (hn : n = ls.length) (hnc : n ≤ 70368744177664) (hs : sumLen ls ≤ 70368744177664)
 (hc : ∀ i (h : i < ls.length), BytesAt w A b (o + i) ls[i]) :
 Calls Tryz.prog 122 #[.slice (some ⟨b, o, none⟩) n c] w fun e w' =>
  ∃ v', e = .returned v' ∧ Bytes w' (fun k => w.heap.size ≤ k ∧ k < w'.heap.size) v' ls.flatten ∧ Ext w w' ∧ Wr w' v' := by
 obtain ⟨i0, hi, hz0, hz1, hz2⟩ := info_parts infoU8
 have HC : Hid (∀ i (h : i < ls.length), BytesAt w A b (o + i) ls[i]) := hc
 clear hc
 have HN : Hid (n = ls.length) := hn
 clear hn
 go_enter Tryz.func122, Tryz.ntmps122
 go_wp2_with fail
 go_loop [3, 11] (fun t i => ∃ k : Nat, k ≤ n ∧ i = .int .i64 k ∧ t = .int .i64 (sumLen (ls.take k) : Nat)) (fun _ i => n - (intOf i).toNat)
 case atStart => exact ⟨0, Nat.zero_le _, rfl, by simp [sumLen]⟩
 case round =>
  obtain ⟨k, hk, rfl, rfl⟩ := hrel
  by_cases hlt : k < n
  · have hk' : k < ls.length := by have := HN.out; omega
    obtain ⟨v, hv1, hv2⟩ := HC.out k hk'
    obtain ⟨a1, c1, rfl⟩ := hv2.len
    have h1 := sumLen_take_succ ls k hk'
    have h2 := sumLen_take_le ls (k + 1)
    have h3 : sumLen (ls.take k) + ls[k].length ≤ 70368744177664 := by omega
    have H1 : Hid (sumLen (ls.take (k + 1)) = sumLen (ls.take k) + ls[k].length) := h1
    clear h1 h2 hv2
    go_wp2_with fail
    all_goals
     go_round
     case rel => exact ⟨k + 1, by omega, by go_num, by rw [H1.out]; simp⟩
     case measure => simp [intOf]; omega
  · obtain rfl : n = k := by omega
    have H3 : Hid (sumLen (ls.take n) = sumLen ls) := by show _ = _; rw [List.take_of_length_le (by have := HN.out; omega)]
    go_wp2_with fail
    rw [H3.out]
    refine (grow_any _ _ (by omega)).mono ?_
    rintro e w1 ⟨v', rfl, ho, hk1⟩
    have HO : Hid (w1.ownsRow w.heap.size 5 1 v' 0 []) := ho
    have HK : Hid (Ext w w1) := hk1
    clear ho hk1
    go_wp2_with fail
    go_loopw [6, 27] (fun t i wr => ∃ k : Nat, k ≤ n ∧ i = .int .i64 k ∧ wr.ownsRow w.heap.size 5 1 t (sumLen (ls.take k)) ((ls.take k).flatten.map byV) ∧ Ext w wr) (fun _ i _ => n - (intOf i).toNat)
    case atStart => exact ⟨0, Nat.zero_le _, rfl, by simpa [sumLen] using HO.out, HK.out⟩
    case round =>
     obtain ⟨k, hk, rfl, ho, he⟩ := hrel
     by_cases hlt : k < n
     · have hk' : k < ls.length := by have := HN.out; omega
       obtain ⟨x, hx1, hx2⟩ := HC.out k hk'
       have hx1' := he.cell hx1
       have h1 := sumLen_take_succ ls k hk'
       have h2 := sumLen_take_le ls (k + 1)
       obtain ⟨v2, w2, hr, ho2, hg2, _⟩ := run_append_src (P := Tryz.prog) wr w.heap.size 27 27 5 i0 _ 1 1 Tryz.underlying27 hi hz0 hz1 hz2 rfl (by decide) _ _ _ ho x _ _ (hx2.ext he).src (by simp) (byV_one _) (by simp [maxLen]; omega) (by omega) he.size
       have H1 : Hid (w2.ownsRow w.heap.size 5 1 v2 (sumLen (ls.take (k + 1))) ((ls.take (k + 1)).flatten.map byV)) := by
        show World.ownsRow _ _ _ _ _ _ _
        rw [h1, flat_take_succ ls k hk', List.map_append]; exact ho2
       have H2 : Hid (Ext w w2) := he.grown hg2 (fun q e => .inr (ho.lt q e).1)
       clear h1 h2 ho2 hg2 ho he hx2 hx1
       go_wp2_with (at_builtin; refine wpList_append_ran rfl _ _ hr rfl rfl rfl ?_)
       go_roundw
       case rel => exact ⟨k + 1, by omega, by go_num, H1.out, H2.out⟩
       case measure => simp [intOf]; omega
     · obtain rfl : n = k := by omega
       have HO' : Hid (wr.ownsRow w.heap.size 5 1 u6 (sumLen (ls.take n)) ((ls.take n).flatten.map byV)) := ho
       have HK' : Hid (Ext w wr) := he
       clear ho he
       go_wp2_with fail
       go_ret
       refine ⟨_, rfl, ?_, HK'.out, Wr.of_owns HO'.out⟩
       have h := HO'.out
       rw [List.take_of_length_le (by have := HN.out; omega)] at h
       exact Bytes.of_owns h
end
section
theorem size_u8 (w : World) : (sizeOf 5).run Tryz.prog w = .ok 1 w := by kernel_rfl
theorem elem_u8 : Tryz.prog.elem 27 = 5 := by kernel_rfl
theorem Bytes.part {w : World} {A : Nat → Prop} {a : Option Addr} {c : Nat} {l : List UInt8} (h : Bytes w A (.slice a l.length c) l) (i j : Nat) (hij : i ≤ j) (hj : j ≤ l.length) :
 Bytes w A (sliced a i j c 1) ((l.take j).drop i) := by
 have hl : ((l.take j).drop i).length = j - i := by rw [List.length_drop, List.length_take, Nat.min_eq_left hj]
 unfold sliced
 rcases h with ⟨a', h1, h2⟩ | ⟨b, o, c', h1, h2, h3, h4⟩
 · subst h2
   obtain rfl : j = 0 := by simpa using hj
   obtain rfl : i = 0 := by omega
   simp only [List.length_nil, Value.slice.injEq] at h1
   obtain ⟨-, -, rfl⟩ := h1
   exact .inl ⟨a, by rw [if_pos rfl], by simp⟩
 · cases h1
   by_cases hc : c = i
   · rw [if_pos hc]
     have hji : j = i := by omega
     have he : (l.take j).drop i = [] := List.eq_nil_of_length_eq_zero (by omega)
     rw [he, hji, hc, Nat.sub_self]
     exact .inl ⟨_, rfl, rfl⟩
   · rw [if_neg hc]
     refine .inr ⟨b, o + i, c - i, ?_, by omega, h3, fun k hk => ?_⟩
     · rw [hl, Option.map_some, Addr.add_lit, Nat.mul_one]
     · rw [hl] at hk
       rw [List.getElem_drop, List.getElem_take, show o + i + k * 1 = o + (i + k) * 1 by omega]
       exact h4 (i + k) (by omega)
theorem part_len {a : Option Addr} {i j c s : Nat} : ∃ a' c', sliced a i j c s = .slice a' (j - i) c' := ⟨_, _, rfl⟩
theorem slice_lh (W : World) (a : Option Addr) (n c i j : Nat) (hij : i ≤ j) (hj : j ≤ c) : (Instr.sliceAt 27 (.slice a n c) (some (.int .i64 (i : Int))) (some (.int .i64 (j : Int))) none).run Tryz.prog W = .ok (sliced a i j c 1) W := by
 have hu : Tryz.prog.underlying 27 = some (.slice (Tryz.prog.elem 27)) := by rw [elem_u8]; exact Tryz.underlying27
 rw [run_sliceAt_slice _ _ _ _ _ _ hu, run_slice_lh _ _ _ _ _ hu _ _ _ _ (by omega) (by omega) (by omega), elem_u8, size_u8]
 simp [Result.andThen]
theorem slice_h (W : World) (a : Option Addr) (n c j : Nat) (hj : j ≤ c) : (Instr.sliceAt 27 (.slice a n c) none (some (.int .i64 (j : Int))) none).run Tryz.prog W = .ok (sliced a 0 j c 1) W := by
 have hu : Tryz.prog.underlying 27 = some (.slice (Tryz.prog.elem 27)) := by rw [elem_u8]; exact Tryz.underlying27
 rw [run_sliceAt_slice _ _ _ _ _ _ hu, run_slice_h _ _ _ _ _ hu _ _ (by omega) (by omega), elem_u8, size_u8]
 simp [Result.andThen]
theorem slice_l (W : World) (a : Option Addr) (n c i : Nat) (hi : i ≤ n) : (Instr.sliceAt 27 (.slice a n c) (some (.int .i64 (i : Int))) none none).run Tryz.prog W = .ok (sliced a i n c 1) W := by
 have hu : Tryz.prog.underlying 27 = some (.slice (Tryz.prog.elem 27)) := by rw [elem_u8]; exact Tryz.underlying27
 rw [run_sliceAt_slice _ _ _ _ _ _ hu, run_slice_l _ _ _ _ _ hu _ _ (by omega) (by omega), elem_u8, size_u8]
 simp [Result.andThen]
theorem eq_sliceU (w : World) (p : Addr) (n c : Nat) : (binOp .eql 27 (.slice (some p) n c) (.slice none 0 0)).run Tryz.prog w = .ok (.bool false) w := by kernel_rfl
theorem eq_noneU (w : World) (c : Nat) : (binOp .eql 27 (.slice none 0 c) (.slice none 0 0)).run Tryz.prog w = .ok (.bool true) w := by kernel_rfl
def New (w w' : World) : Nat → Prop := fun k => w.heap.size ≤ k ∧ k < w'.heap.size
theorem clone_bytes {A : Nat → Prop} (w : World) (v : Value) (l : List UInt8) (h : Bytes w A v l) (hl : l.length ≤ 70368744177664) :
 Calls Tryz.prog 70 #[v] w fun e w' => ∃ v', e = .returned v' ∧ Win w' w.heap.size 1 v' l.length (l.map byV) ∧ Ext w w' := by
 obtain ⟨a, c, rfl⟩ := h.len
 cases a with
 | none =>
   have h0 : l = [] := by
    rcases h with ⟨a, h1, h2⟩ | ⟨g, o, cap, h1, _⟩
    · exact h2
    · cases h1
   subst h0
   clear h
   have hq := eq_noneU w c
   simp only [List.length_nil]
   go_enter Tryz.func70, Tryz.ntmps70
   go_wp2_with fail
   go_ret
   exact ⟨_, rfl, Win.nil _ _ _, Keeps.refl _ _⟩
 | some p =>
   have e0 : Ext w (w.alloc (Obj.cells #[] 5)) := (Keeps.refl _ _).alloc _
   obtain ⟨v1, w1, hr1, hwin1, hk1, ho1⟩ := append_bytes (w.alloc (Obj.cells #[] 5)) w.heap.size (.slice (some ⟨w.heap.size, 0, none⟩) 0 0) [] 27 (Win.empty (Nat.le_refl _) (by simp)) _ l (h.ext e0) (by simp; omega) (by simp)
   simp only [List.nil_append] at hwin1
   have e1 : Ext w w1 := e0.then hk1 (fun i hi h2 => by have := own_eq h2; omega)
   have HW := Lib.hid hwin1
   have HE := Lib.hid e1
   have hq := eq_sliceU w p l.length c
   clear h e0 hwin1 hk1 ho1 e1
   go_enter Tryz.func70, Tryz.ntmps70
   go_wp2_with (at_builtin; refine wpList_append_ran rfl _ _ hr1 rfl rfl rfl ?_)
   go_ret
   exact ⟨_, rfl, HW.out, HE.out⟩
theorem Win.bytes {w : World} {base n : Nat} {v : Value} {l : List UInt8} (h : Win w base 1 v n (l.map byV)) : Bytes w (fun b => base ≤ b ∧ b < w.heap.size) v l := Bytes.of_win h
theorem equal_bytes {A B : Nat → Prop} (w : World) (v u : Value) (l m : List UInt8) (h : Bytes w A v l) (h' : Bytes w B u m) (hl : l.length ≤ 70368744177664) :
 Calls Tryz.prog 112 #[v, u] w fun e w' => e = .returned (.bool (decide (l = m))) ∧ Ext w w' := by
 obtain ⟨a, c, rfl⟩ := h.len
 obtain ⟨a', c', rfl⟩ := h'.len
 have HM := Lib.hid (Mem.start0 w)
 have H := Lib.hid h
 have H' := Lib.hid h'
 have HLL := Lib.hid hl
 clear h h' hl
 by_cases hn : l.length = m.length
 case neg =>
  have hn1 : ((l.length : Int) != (m.length : Int)) = true := by simpa using (fun e => hn (by omega))
  have hd : decide (l = m) = false := decide_eq_false fun e => hn (by rw [e])
  rw [hd]
  clear hn hd
  go_enter Tryz.func112, Tryz.ntmps112
  go_wp2_with fail
  go_ret
  exact ⟨rfl, HM.out.extTo⟩
 rw [← hn]
 have HN := Lib.hid hn
 rw [← hn] at H'
 clear hn
 go_enter Tryz.func112, Tryz.ntmps112
 go_wp2_with fail
 go_loopw [13] (fun i wr => ∃ j : Nat, j ≤ l.length ∧ i = .int .i64 j ∧ Hid (l.take j = m.take j) ∧ Hid (Mem NoB w wr [])) (fun i _ => l.length - (intOf i).toNat)
 case atStart => exact ⟨0, Nat.zero_le _, rfl, Lib.hid (by simp), HM⟩
 case round =>
  clear HM
  obtain ⟨j, hj, rfl, HT, HM⟩ := hrel
  by_cases hlt : j < l.length
  · have hlt' : j < m.length := by rw [← HN.out]; exact hlt
    have g1 : (j : Int) < l.length := by omega
    have g2 : ¬ (j : Int) < 0 := by omega
    have hll := HLL.out
    obtain ⟨g, o, rfl, -, hg, hc⟩ := (H.out.ext HM.out.extTo).at j hlt
    have h8 := H'.out.ext HM.out.extTo
    rw [HN.out] at h8
    obtain ⟨g', o', rfl, -, hg', hc'⟩ := h8.at j hlt'
    have HS := Lib.hid (show l.take (j + 1) = l.take j ++ [l[j]] from List.take_succ_eq_append_getElem hlt)
    have HS' := Lib.hid (show m.take (j + 1) = m.take j ++ [m[j]] from List.take_succ_eq_append_getElem hlt')
    have HG := Lib.hid (show l[j]? = some l[j] from List.getElem?_eq_getElem hlt)
    have HG' := Lib.hid (show m[j]? = some m[j] from List.getElem?_eq_getElem hlt')
    obtain ⟨x, hx⟩ : ∃ x, l[j] = x := ⟨_, rfl⟩
    obtain ⟨y, hy⟩ : ∃ y, m[j] = y := ⟨_, rfl⟩
    rw [hx] at hc HS HG
    rw [hy] at hc' HS' HG'
    clear hx hy h8
    go_wp2_with fail
    by_cases hxy : x = y
    · subst hxy
      have hE0 : Keeps NoB wr wr.drew := (Keeps.refl _ _).drew
      refine wp_region_plan [(0, 0), (0, 1), (0, 2), (3, 3), (0, 4), (0, 5), (0, 6), (3, 7), (0, 8)] [] [] [] (ClsE wr) (by kernel_rfl) (by kernel_rfl) (by kernel_rfl) rfl rfl (ClsE.of hE0) (fun _ _ _ d _ h => by cases d <;> exact h) ?_; simp only [planL, nL]
      iterate 9 (first | (refine pM _ rfl rfl ?_; simp only [nP, nE]) | (refine pR (by rfl) (fun W => by go_simp <;> with_reducible rfl) ?_; simp only [nP]) | (refine pX (by rfl) (by go_simp <;> with_reducible rfl) ?_; simp only [nP]))
      refine plan_nil ?_; simp only [tailL, List.filterMap_nil]
      go_wp2_with fail
      go_roundw
      case rel => exact ⟨j + 1, by omega, by go_num, Lib.hid (by rw [HS.out, HS'.out, HT.out]), Lib.hid HM.out.to⟩
      case measure => simp [intOf]; omega
    · have hne : ((x.toNat : Int) != (y.toNat : Int)) = true := by
       simpa using (fun e => hxy (UInt8.toNat_inj.1 (by omega)))
      have hE0 : Keeps NoB wr wr.drew := (Keeps.refl _ _).drew
      refine wp_region_plan [(0, 0), (0, 1), (0, 2), (3, 3), (0, 4), (0, 5), (0, 6), (3, 7), (0, 8)] [] [] [] (ClsE wr) (by kernel_rfl) (by kernel_rfl) (by kernel_rfl) rfl rfl (ClsE.of hE0) (fun _ _ _ d _ h => by cases d <;> exact h) ?_; simp only [planL, nL]
      iterate 9 (first | (refine pM _ rfl rfl ?_; simp only [nP, nE]) | (refine pR (by rfl) (fun W => by go_simp <;> with_reducible rfl) ?_; simp only [nP]) | (refine pX (by rfl) (by go_simp <;> with_reducible rfl) ?_; simp only [nP]))
      refine plan_nil ?_; simp only [tailL, List.filterMap_nil]
      go_wp2_with fail
      go_ret
      have hd : decide (l = m) = false := decide_eq_false fun e => by
       have h1 := HG.out
       rw [e, HG'.out] at h1
       exact hxy (Option.some.inj h1).symm
      rw [hd]
      exact ⟨rfl, HM.out.to.extTo⟩
  · obtain rfl : j = l.length := by omega
    go_wp2_with fail
    go_ret
    have hd : decide (l = m) = true := decide_eq_true (by
     have h1 := HT.out
     rw [List.take_length, HN.out, List.take_length] at h1
     exact h1)
    rw [hd]
    exact ⟨rfl, HM.out.extTo⟩
end
section
def bytR (v : Value) (l : List UInt8) : Res := winR 1 v l.length (l.map byV)
section
variable {F : Nat → Prop} {w0 w w' W : World} {L : List Res} {v : Value} {l : List UInt8} {A : Nat → Prop}
theorem bytR.bytes (h : (bytR v l).p A w) : Bytes w A v l := by
 obtain ⟨h1, h2⟩ := h
 obtain ⟨h3, h4 | ⟨g, o, cap, rfl, h5, h6, h7, h8, h9, h10⟩⟩ := h2
 · exact .inl ⟨none, h4.1, List.eq_nil_of_length_eq_zero h4.2⟩
 · refine .inr ⟨g, o, cap, rfl, h6, (h1 g).2 rfl, fun i hi => ?_⟩
   unfold ByteAt
   rw [Nat.mul_one]
   exact h10 i _ (by rw [List.getElem?_map, List.getElem?_eq_getElem hi]; rfl)
theorem bytR.len (h : (bytR v l).p A w) : ∃ a c, v = .slice a l.length c := h.2.len
theorem bytR.lt (h : (bytR v l).p A w) : ∀ k, A k → k < w.heap.size := Res.lt _ h
theorem Mem.byt (h : Mem F w0 w (bytR v l :: L)) : ∃ A, Bytes w A v l ∧ (∀ k, A k → k < w.heap.size) := by
 obtain ⟨A, hA⟩ := h.get (L' := L) .here
 exact ⟨A, bytR.bytes hA, bytR.lt hA⟩
theorem Mem.bytNil (h : Mem F w0 w L) : Mem F w0 w (bytR (.slice none 0 0) [] :: L) :=
 h.new (r := bytR (.slice none 0 0) []) (G := fun _ => False) (Keeps.refl _ _) ⟨fun k => ⟨fun h => h.elim, fun h => by cases h⟩, Win.nil w 0 1⟩ (fun k h => h.elim)
theorem Mem.bytNew (h : Mem F w0 W L) (e : Ext W w) (hw : Win w W.heap.size 1 v l.length (l.map byV)) : Mem F w0 w (bytR v l :: L) :=
 h.new (r := bytR v l) (G := Own v) e ⟨fun k => Iff.rfl, Win.mono hw (Nat.zero_le _)⟩ fun k hk => (Win.block hw k hk).1
theorem Mem.bytEmpty {g : Nat} {t : TypeId} (h : Mem F w0 w (cellsR g t [] :: L)) : Mem F w0 w (bytR (.slice (some ⟨g, 0, none⟩) 0 0) [] :: L) :=
 h.turn fun A hA => ⟨fun k => ⟨fun hk => by rw [(hA.1 k).1 hk]; rfl, fun hk => (hA.1 k).2 (Option.some.inj (show some g = some k from hk)).symm⟩, Win.empty (Nat.zero_le _) hA.2.lt⟩
theorem Mem.bytMade {g : Nat} (h : Mem F w0 w (cellsR g 5 (l.map byV) :: L)) (hl : l.length ≤ 70368744177664) : Mem F w0 w (bytR (.slice (some ⟨g, 0, none⟩) l.length l.length) l :: L) :=
 h.turn fun A hA => ⟨fun k => ⟨fun hk => by rw [(hA.1 k).1 hk]; rfl, fun hk => (hA.1 k).2 (Option.some.inj (show some g = some k from hk)).symm⟩, by
  have hr := hA.2.reads
  refine ⟨by simp, .inr ⟨g, 0, l.length, rfl, Nat.zero_le _, Nat.le_refl _, by simp [maxLen]; omega, hA.2.lt, fun j hj => ?_, fun j u hu => ?_⟩⟩
  · rw [Nat.zero_add]
    exact ⟨by rw [hr.1, List.getElem?_eq_getElem (by simpa using hj)]; rfl, hr.2 j⟩
  · rw [Nat.zero_add, hr.1]; exact hu⟩
theorem Mem.bytAdd (ty : TypeId) (h : Mem F w0 w (bytR v l :: L)) (x : Value) (m : List UInt8) (hx : Bytes w A x m) (hl : l.length + m.length ≤ 70368744177664) :
 ∃ v' w', (Builtin.append_ #[27, 27] ty #[v, x]).run Tryz.prog w = .ok v' w' ∧ Mem F w0 w' (bytR v' (l ++ m) :: L) := by
 obtain ⟨i0, hi, hz0, hz1, hz2⟩ := info_parts infoU8
 obtain ⟨v', w', h1, h2⟩ := Mem.append (P := Tryz.prog) 27 27 ty 5 i0 _ 1 1 Tryz.underlying27 hi hz0 hz1 hz2 rfl h
  x m.length (m.map byV) (hx.src.toSrc Tryz.underlying27 (by simp) (byV_one m)) (by simp [maxLen]; omega) (by omega)
 exact ⟨v', w', h1, by unfold bytR; rw [List.length_append, List.map_append]; exact h2⟩
theorem byteCells_bs (m : List UInt8) : byteCells (bs m) = m.map byV := by
 unfold byteCells; rw [bs_data]; rfl
theorem Mem.bytAddS (ty : TypeId) (h : Mem F w0 w (bytR v l :: L)) (m : List UInt8) (hl : l.length + m.length ≤ 70368744177664) :
 ∃ v' w', (Builtin.append_ #[27, 9] ty #[v, .string (bs m)]).run Tryz.prog w = .ok v' w' ∧ Mem F w0 w' (bytR v' (l ++ m) :: L) := by
 obtain ⟨i0, hi, hz0, hz1, hz2⟩ := info_parts infoU8
 have hs := Src.ofString (P := Tryz.prog) w Tryz.underlying9 (bs m)
 rw [byteCells_bs, bs_size] at hs
 obtain ⟨v', w', h1, h2⟩ := Mem.append (P := Tryz.prog) 27 9 ty 5 i0 _ 1 1 Tryz.underlying27 hi hz0 hz1 hz2 rfl h
  (.string (bs m)) m.length (m.map byV) hs (by simp [maxLen]; omega) (by omega)
 exact ⟨v', w', h1, by unfold bytR; rw [List.length_append, List.map_append]; exact h2⟩
theorem Upd.byt (h : Upd NoB w w' (bytR v l)) : Bytes w' (New w w') v l ∧ Ext w w' := by
 obtain ⟨F', h1, h2, h3⟩ := h
 refine ⟨(bytR.bytes h1).mono fun k hk => ⟨?_, bytR.lt h1 k hk⟩, h2⟩
 rcases h3 k hk with h | h
 · exact (noB _ h).elim
 · exact h
end
end
section
theorem index_bools (w : World) (b : Nat) (l : List Bool) (hl : l.length ≤ 1000) (hb : Box w b 4 (l.map .bool)) : Calls Tryz.prog 140 #[.slice (some ⟨b, 0, none⟩) l.length l.length, .bool false] w fun e w' => (∃ r : Int, e = .returned (.int .i64 r) ∧ decide (r ≥ 0) = l.contains false) ∧ Ext w w' := by
 have hr := hb.reads.1
 have hlt := hb.lt
 have HB := Lib.hid hb
 clear hb
 go_enter Tryz.func140, Tryz.ntmps140
 go_wp2_with fail
 go_loopw [8] (fun i wr => ∃ j : Nat, j ≤ l.length ∧ i = .int .i64 j ∧ Hid (∀ q ∈ l.take j, q = true) ∧ Hid (wr = w)) (fun i _ => l.length - (intOf i).toNat)
 case atStart => exact ⟨0, Nat.zero_le _, rfl, Lib.hid (fun q hq => by cases hq), Lib.hid rfl⟩
 case round =>
  obtain ⟨j, hj, rfl, HF, HW⟩ := hrel
  obtain rfl := HW.out
  by_cases hlt' : j < l.length
  · have g1 : (j : Int) < l.length := by omega
    have g2 : ¬ (j : Int) < 0 := by omega
    have c0 : wr.cell? ⟨b, j, none⟩ = some (.bool l[j]) := by rw [hr, List.getElem?_map, List.getElem?_eq_getElem hlt']; rfl
    have HTK := Lib.hid (List.take_succ_eq_append_getElem hlt')
    have HIN := Lib.hid (List.getElem_mem hlt')
    obtain ⟨q, hq⟩ : ∃ q, l[j] = q := ⟨_, rfl⟩
    rw [hq] at c0 HTK HIN
    clear hr hq
    cases q
    · go_wp2_with fail
      go_ret
      exact ⟨⟨_, rfl, by have h1 := HIN.out; simp [h1]⟩, Keeps.refl _ _⟩
    · go_wp2_with fail
      go_roundw
      case rel =>
       refine ⟨j + 1, by omega, by go_num, Lib.hid ?_, Lib.hid (by trivial)⟩
       rw [HTK.out]
       intro y hy
       rcases List.mem_append.1 hy with hy | hy
       · exact HF.out y hy
       · rw [List.mem_singleton.1 hy]
      case measure => simp [intOf]; omega
  · obtain rfl : j = l.length := by omega
    rw [List.take_length] at HF
    clear hr
    go_wp2_with fail
    go_ret
    refine ⟨⟨-1, rfl, ?_⟩, Keeps.refl _ _⟩
    have h1 : ¬ false ∈ l := fun h => by have := HF.out _ h; cases this
    simp [h1]
theorem contains_bools (w : World) (b : Nat) (l : List Bool) (hl : l.length ≤ 1000) (hb : Box w b 4 (l.map .bool)) : Calls Tryz.prog 79 #[.slice (some ⟨b, 0, none⟩) l.length l.length, .bool false] w fun e w' => e = .returned (.bool (l.contains false)) ∧ Ext w w' := by
 have HB := Lib.hid hb
 clear hb
 go_enter Tryz.func79, Tryz.ntmps79
 go_wp2_with fail
 refine (index_bools w b l hl HB.out).mono ?_
 rintro e w2 ⟨⟨r, rfl, hr⟩, hE⟩
 have HE := Lib.hid hE
 have HR := Lib.hid hr
 clear hE hr
 go_wp2_with fail
 go_ret
 exact ⟨by rw [← HR.out]; rfl, HE.out⟩
end
end Go.Proofs.YtoadjbgpfihoiaaGreatDoor
