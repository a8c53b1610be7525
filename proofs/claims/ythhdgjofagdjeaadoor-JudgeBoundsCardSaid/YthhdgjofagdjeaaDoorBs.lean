/- Strings as lists of bytes. No program is named here. -/
import Derived.Test.YthhdgjofagdjeaaDoorBase
import Derived.Laws.IdiomStrings
set_option linter.unusedVariables false
set_option linter.unusedSimpArgs false
set_option maxRecDepth 100000
namespace Go.Proofs.YthhdgjofagdjeaaDoor
open Go.RowKit

def bs (l : List UInt8) : ByteArray := ⟨l.toArray⟩
theorem bs_size (l : List UInt8) : (bs l).size = l.length := by simp [bs, ByteArray.size]
theorem bs_data (l : List UInt8) : (bs l).data.toList = l := by simp [bs]
theorem bs_of (s : ByteArray) : bs s.data.toList = s := by simp [bs]

theorem str_loop (b : ByteArray) : ∀ (n i : Nat) (r : List UInt8), b.size - i = n → ByteArray.toList.loop b i r = r.reverse ++ b.data.toList.drop i
  | 0, i, r, h => by
    unfold ByteArray.toList.loop
    have hs : b.size = b.data.toList.length := by rw [Array.length_toList]; rfl
    rw [if_neg (by omega), List.drop_of_length_le (by omega)]
    simp
  | n + 1, i, r, h => by
    unfold ByteArray.toList.loop
    have hs : b.size = b.data.toList.length := by rw [Array.length_toList]; rfl
    rw [if_pos (by omega), str_loop b n (i + 1) _ (by omega)]
    have hi : i < b.data.toList.length := by omega
    rw [List.drop_eq_getElem_cons hi]
    have : b.get! i = b.data.toList[i] := by
      simp [ByteArray.get!]
      rw [getElem!_pos]
    simp [this]
/-- a string's letters -/
theorem bs_toList (l : List UInt8) : (bs l).toList = l := by
  unfold ByteArray.toList
  rw [str_loop _ _ 0 [] rfl]; simp [bs]
end Go.Proofs.YthhdgjofagdjeaaDoor
