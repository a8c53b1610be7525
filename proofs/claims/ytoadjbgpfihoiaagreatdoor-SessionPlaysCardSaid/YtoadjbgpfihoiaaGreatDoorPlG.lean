/- Texts Crc, Take, one behind the other. Conditions: as each says. -/
import Derived.Test.YtoadjbgpfihoiaaGreatDoorPlA
set_option linter.unusedVariables false
set_option linter.unusedSimpArgs false
set_option maxHeartbeats 8000000
set_option maxRecDepth 100000
namespace Go.Proofs.YtoadjbgpfihoiaaGreatDoor
open Go.RowKit
def wV (n : Nat) : Value := .int .u32 (n : Int)
def polyN : Nat := 3988292384
def tmN (n : Nat) : Nat := if n % 2 = 1 then n / 2 ^^^ polyN else n / 2
def tmK : Nat → Nat → Nat
 | 0, n => n
 | k + 1, n => tmN (tmK k n)
def crcB (n : Nat) (c : UInt8) : Nat := tmK 8 (n ^^^ c.toNat)
def crcL (n : Nat) (l : List UInt8) : Nat := l.foldl crcB n
def crcS (l : List UInt8) : Nat := 4294967295 - crcL 4294967295 l
def low4 (n : Nat) : List UInt8 := [UInt8.ofNat n, UInt8.ofNat (n / 256), UInt8.ofNat (n / 65536), UInt8.ofNat (n / 16777216)]
def sealL (l : List UInt8) : List UInt8 := l ++ low4 (crcS l)
theorem low4_len (n : Nat) : (low4 n).length = 4 := rfl
theorem sealL_len (l : List UInt8) : (sealL l).length = l.length + 4 := by unfold sealL; rw [List.length_append, low4_len]
def openL (l : List UInt8) : Option (List UInt8) := if l.length < 4 then none else if low4 (crcS (l.take (l.length - 4))) = l.drop (l.length - 4) then some (l.take (l.length - 4)) else none
theorem open_seal (l : List UInt8) : openL (sealL l) = some l := by
 unfold openL; have h1 : (sealL l).length - 4 = l.length := by rw [sealL_len]; omega
 rw [if_neg (by rw [sealL_len]; omega), h1]; unfold sealL; rw [List.take_left' rfl, List.drop_left' rfl, if_pos rfl]
theorem tmN_lt {n : Nat} (h : n < 4294967296) : tmN n < 4294967296 := by
 unfold tmN polyN; split
 · exact Nat.xor_lt_two_pow (n := 32) (by omega) (by omega)
 · omega
theorem tmK_lt {n : Nat} (h : n < 4294967296) : ∀ k, tmK k n < 4294967296
 | 0 => h
 | k + 1 => tmN_lt (tmK_lt h k)
theorem crcB_lt {n : Nat} (h : n < 4294967296) (c : UInt8) : crcB n c < 4294967296 := tmK_lt (Nat.xor_lt_two_pow (n := 32) (by omega) (by have := c.toNat_lt; omega)) 8
theorem crcL_lt {n : Nat} (h : n < 4294967296) : ∀ l : List UInt8, crcL n l < 4294967296 := by
 intro l; induction l generalizing n with
 | nil => exact h
 | cons c l ih => rw [show crcL n (c :: l) = crcL (crcB n c) l by unfold crcL; rw [List.foldl_cons]]; exact ih (crcB_lt h c)
theorem crcS_lt (l : List UInt8) : crcS l < 4294967296 := Nat.lt_of_le_of_lt (Nat.sub_le _ _) (by decide)
theorem crcL_take {n : Nat} {l : List UInt8} {i : Nat} (hi : i < l.length) : crcL n (l.take (i + 1)) = crcB (crcL n (l.take i)) l[i] := by
 unfold crcL; rw [List.take_succ_eq_append_getElem hi, List.foldl_append, List.foldl_cons, List.foldl_nil]
theorem ofInt32 {n : Nat} (h : n < 4294967296) : (BitVec.ofInt 32 (n : Int)).toNat = n := by
 rw [BitVec.ofInt_natCast, BitVec.toNat_ofNat]; exact Nat.mod_eq_of_lt (by omega)
theorem xor_u32 {a b : Nat} (ha : a < 4294967296) (hb : b < 4294967296) : bits .xor .u32 (a : Int) (b : Int) = ((a ^^^ b : Nat) : Int) := by
 show IntKind.u32.wrap ((BitVec.ofInt 32 (a : Int) ^^^ BitVec.ofInt 32 (b : Int)).toNat : Int) = _
 rw [BitVec.toNat_xor, ofInt32 ha, ofInt32 hb]; have := Nat.xor_lt_two_pow (n := 32) ha hb; simp [IntKind.wrap, IntKind.bits, IntKind.signed]; omega
theorem and1_u32 {a : Nat} (ha : a < 4294967296) : bits .and .u32 (a : Int) 1 = ((a % 2 : Nat) : Int) := by
 show IntKind.u32.wrap ((BitVec.ofInt 32 (a : Int) &&& BitVec.ofInt 32 ((1 : Nat) : Int)).toNat : Int) = _
 rw [BitVec.toNat_and, ofInt32 ha, ofInt32 (by decide), Nat.and_one_is_mod]; simp [IntKind.wrap, IntKind.bits, IntKind.signed]; omega
theorem not_u32 {a : Nat} (ha : a < 4294967296) : bits .xor .u32 IntKind.u32.max (a : Int) = ((4294967295 - a : Nat) : Int) := by
 show IntKind.u32.wrap ((BitVec.ofInt 32 ((4294967295 : Nat) : Int) ^^^ BitVec.ofInt 32 (a : Int)).toNat : Int) = _
 rw [BitVec.toNat_xor, ofInt32 ha, ofInt32 (by decide)]
 have h : (4294967295 : Nat) ^^^ a = 4294967295 - a := by
  have h1 : (BitVec.allOnes 32 ^^^ BitVec.ofNat 32 a).toNat = 4294967295 - a := by
   rw [BitVec.allOnes_xor, BitVec.toNat_not, BitVec.toNat_ofNat, Nat.mod_eq_of_lt (by omega)]
  rw [BitVec.toNat_xor, BitVec.toNat_allOnes, BitVec.toNat_ofNat, Nat.mod_eq_of_lt (by omega)] at h1; exact h1
 rw [h]; simp [IntKind.wrap, IntKind.bits, IntKind.signed]; omega
def topN : Nat := 4611686018427387904
def numF : Nat → Nat → List UInt8
 | 0, n => [UInt8.ofNat n]
 | f + 1, n => if 128 ≤ n then UInt8.ofNat (n % 128 + 128) :: numF f (n / 128) else [UInt8.ofNat n]
def numL (n : Nat) : List UInt8 := numF 9 n
def takeG : Nat → Nat → List UInt8 → Nat × Int
 | i, _, [] => (0, if 9 ≤ i then -1 else 0)
 | i, n, c :: l => if i = 9 then (0, -1) else
   if c.toNat < 128 then (if (0 < i ∧ c.toNat = 0) ∨ topN < n + c.toNat % 128 * 128 ^ i then (0, -1) else (n + c.toNat % 128 * 128 ^ i, (i : Int) + 1))
   else takeG (i + 1) (n + c.toNat % 128 * 128 ^ i) l
def takeL (l : List UInt8) : Nat × Int := takeG 0 0 l
theorem byte_ofNat {n : Nat} (h : n < 256) : (UInt8.ofNat n).toNat = n := by
 rw [UInt8.toNat_ofNat']; exact Nat.mod_eq_of_lt h
theorem takeG_cons (i n : Nat) (c : UInt8) (l : List UInt8) : takeG i n (c :: l) = if i = 9 then (0, -1) else
 if c.toNat < 128 then (if (0 < i ∧ c.toNat = 0) ∨ topN < n + c.toNat % 128 * 128 ^ i then (0, -1) else (n + c.toNat % 128 * 128 ^ i, (i : Int) + 1))
 else takeG (i + 1) (n + c.toNat % 128 * 128 ^ i) l := rfl
theorem takeG_nine (n : Nat) (l : List UInt8) : takeG 9 n l = (0, -1) := by
 cases l with
 | nil => rfl
 | cons c l => simp [takeG]
theorem takeG_spec : ∀ (l : List UInt8) (i n : Nat), i ≤ 9 → (takeG i n l).1 ≤ topN ∧ (takeG i n l).2 ≤ 9 ∧ ((takeG i n l).2 ≤ 0 → (takeG i n l).1 = 0) ∧ -1 ≤ (takeG i n l).2 ∧ (takeG i n l).2 ≤ (i : Int) + l.length ∧ ((takeG i n l).2 = 0 → (i : Int) + l.length < 9)
 ∧ (0 < (takeG i n l).2 → (i : Int) < (takeG i n l).2)
 | [], i, n, hi => by
   unfold takeG; split
   · exact ⟨Nat.zero_le _, by decide, fun _ => rfl, by decide, by rw [List.length_nil]; omega, by simp, by simp⟩
   · exact ⟨Nat.zero_le _, by decide, fun _ => rfl, by decide, by simp, by simp; omega, by simp⟩
 | c :: l, i, n, hi => by
   unfold takeG; split
   · exact ⟨Nat.zero_le _, by decide, fun _ => rfl, by decide, by rw [List.length_cons]; omega, by simp, by simp⟩
   · split
     · split
       · exact ⟨Nat.zero_le _, by decide, fun _ => rfl, by decide, by rw [List.length_cons]; omega, by simp, by simp⟩
       · rename_i h1 h2 h3
         refine ⟨by dsimp only; omega, by dsimp only; omega, fun h => ?_, by dsimp only; omega, by dsimp only; rw [List.length_cons]; omega, fun h => ?_, fun h => by dsimp only; omega⟩
         · dsimp only at h; omega
         · dsimp only at h; omega
     · rename_i h1 h2
       obtain ⟨a1, a2, a3, a4, a5, a6, a7⟩ := takeG_spec l (i + 1) (n + c.toNat % 128 * 128 ^ i) (by omega); refine ⟨a1, a2, a3, a4, ?_, fun h => ?_, fun h => ?_⟩
       · rw [List.length_cons]; omega
       · have := a6 h; rw [List.length_cons]; omega
       · have := a7 h; omega
theorem takeL_le (l : List UInt8) : (takeL l).1 ≤ topN := (takeG_spec l 0 0 (by omega)).1
theorem takeL_k (l : List UInt8) : -1 ≤ (takeL l).2 ∧ (takeL l).2 ≤ 9 ∧ (takeL l).2 ≤ l.length := by
 have h := takeG_spec l 0 0 (by omega); refine ⟨h.2.2.2.1, h.2.1, ?_⟩; have := h.2.2.2.2.1; rw [Int.natCast_zero, Int.zero_add] at this; exact this
theorem numF_more : ∀ (f n : Nat), n < 128 ^ (f + 1) → numF (f + 1) n = numF f n
 | 0, n, h => by
   unfold numF; rw [if_neg (by rw [Nat.zero_add, Nat.pow_one] at h; omega)]
 | f + 1, n, h => by
   have h1 : n / 128 < 128 ^ (f + 1) := by rw [Nat.pow_succ] at h; omega
   conv => lhs; unfold numF
   conv => rhs; unfold numF
   rw [numF_more f (n / 128) h1]
theorem numL_step {n : Nat} (h : n < 9223372036854775808) : numL n = if 128 ≤ n then UInt8.ofNat (n % 128 + 128) :: numL (n / 128) else [UInt8.ofNat n] := by
 have h1 : n / 128 < 128 ^ 9 := by omega
 unfold numL; rw [numF_more 8 (n / 128) h1]; rfl
theorem numF_len : ∀ (f n : Nat), 1 ≤ (numF f n).length ∧ (numF f n).length ≤ f + 1
 | 0, n => by simp [numF]
 | f + 1, n => by
   unfold numF; split
   · have := numF_len f (n / 128)
     rw [List.length_cons]; omega
   · simp
theorem numL_len (n : Nat) : 1 ≤ (numL n).length ∧ (numL n).length ≤ 10 := numF_len 9 n
theorem takeG_num : ∀ (f i acc n : Nat) (r : List UInt8), n < 128 ^ (f + 1) → i + f ≤ 8 → acc + n * 128 ^ i ≤ topN → (0 < i → n ≠ 0) → takeG i acc (numF f n ++ r) = (acc + n * 128 ^ i, (i : Int) + (numF f n).length)
 | 0, i, acc, n, r, h, hi, ht, h0 => by
   have hn : n < 128 := by simpa using h
   have h1 : (UInt8.ofNat n).toNat = n := byte_ofNat (by omega); unfold numF; rw [List.singleton_append, takeG_cons, if_neg (by omega)]; simp only [h1]; rw [if_pos hn, Nat.mod_eq_of_lt hn, if_neg (by omega)]; rfl
 | f + 1, i, acc, n, r, h, hi, ht, h0 => by
   unfold numF; split
   · rename_i hb
     have h1 : (UInt8.ofNat (n % 128 + 128)).toNat = n % 128 + 128 := byte_ofNat (by omega); rw [List.cons_append, takeG_cons, if_neg (by omega)]; simp only [h1]
     have he : acc + (n % 128 + 128) % 128 * 128 ^ i + n / 128 * 128 ^ (i + 1) = acc + n * 128 ^ i := by
      have h2 : n = n % 128 + n / 128 * 128 := by omega
      have h3 : (n % 128 + 128) % 128 = n % 128 := by omega
      rw [h3, Nat.pow_succ, Nat.add_assoc]; congr 1
      conv => rhs; rw [h2, Nat.add_mul]
      rw [Nat.mul_assoc, Nat.mul_comm (128 ^ i) 128]
     rw [if_neg (by omega), takeG_num f (i + 1) _ (n / 128) r (by rw [Nat.pow_succ] at h; omega) (by omega) (by rw [he]; exact ht) (fun _ => by omega), he, List.length_cons]; congr 1
     omega
   · rename_i hb
     have h1 : (UInt8.ofNat n).toNat = n := byte_ofNat (by omega); rw [List.singleton_append, takeG_cons, if_neg (by omega)]; simp only [h1]; rw [if_pos (by omega), Nat.mod_eq_of_lt (by omega), if_neg (by omega)]; rfl
theorem takeL_num {n : Nat} (h : n ≤ topN) (r : List UInt8) : takeL (numL n ++ r) = (n, ((numL n).length : Int)) := by
 have h0 : n < 128 ^ 9 := by unfold topN at h; omega
 unfold takeL numL; rw [numF_more 8 n h0]; have := takeG_num 8 0 0 n r h0 (by omega) (by simpa using h) (by omega); simpa using this
structure Rdr where
 b : List UInt8
 e : Int
def Rdr.bad : Rdr := ⟨[], 120⟩
def Rdr.num (r : Rdr) (g : Int) : Rdr × Nat × Int :=
 if r.e ≠ 0 then (r, 0, r.e) else if g < 0 then (r, 0, 2) else
 if 0 < (takeL r.b).2 ∧ ((takeL r.b).1 : Int) ≤ g then (⟨r.b.drop (takeL r.b).2.toNat, 0⟩, (takeL r.b).1, 0) else (Rdr.bad, 0, 120)
def Rdr.txt (r : Rdr) (g : Int) : Rdr × List UInt8 × Int :=
 if (r.num g).2.2 ≠ 0 then ((r.num g).1, [], (r.num g).2.2) else
 if (r.num g).2.1 ≤ (r.num g).1.b.length then (⟨(r.num g).1.b.drop (r.num g).2.1, 0⟩, (r.num g).1.b.take (r.num g).2.1, 0) else (Rdr.bad, [], 120)
def Rdr.tru (r : Rdr) : Rdr × Bool × Int :=
 if r.e ≠ 0 then (r, false, r.e) else match r.b with
 | [] => (Rdr.bad, false, 120)
 | c :: l => if c.toNat ≤ 1 then (⟨l, 0⟩, c.toNat == 1, 0) else (Rdr.bad, false, 120)
def Rdr.fin (r : Rdr) : Rdr × Int := if r.e ≠ 0 then (r, r.e) else if r.b = [] then (r, 0) else (Rdr.bad, 120)
def txtL (s : List UInt8) : List UInt8 := numL s.length ++ s
def truL (b : Bool) : List UInt8 := [if b then 1 else 0]
def frameL (l : List UInt8) : List UInt8 := numL (l.length + 4) ++ sealL l
def splitL (l : List UInt8) : List UInt8 × Nat × Int :=
 if (takeL l).2 = 0 then ([], 0, 0) else if (takeL l).2 < 0 ∨ (takeL l).1 < 4 ∨ 4100 < (takeL l).1 then ([], 0, 121) else
 if l.length < (takeL l).2.toNat + (takeL l).1 then ([], 0, 0) else
 match openL ((l.drop (takeL l).2.toNat).take (takeL l).1) with
 | none => ([], 0, 110)
 | some m => (m, (takeL l).2.toNat + (takeL l).1, 0)
end Go.Proofs.YtoadjbgpfihoiaaGreatDoor
