/- Texts SlEq, one behind the other. Conditions: as each says. -/
import Derived.Test.YtoadjbgpfihoiaaGreatDoorPlJ
set_option linter.unusedVariables false
set_option linter.unusedSimpArgs false
set_option maxHeartbeats 8000000
set_option maxRecDepth 100000
namespace Go.Proofs.YtoadjbgpfihoiaaGreatDoor
open Go.RowKit
theorem index_bools (w : World) (b : Nat) (l : List Bool) (hl : l.length ≤ 1000) (hb : Box w b 4 (l.map .bool)) : Calls Tryz.prog 140 #[.slice (some ⟨b, 0, none⟩) l.length l.length, .bool false] w fun e w' => (∃ r : Int, e = .returned (.int .i64 r) ∧ decide (r ≥ 0) = l.contains false) ∧ Ext w w' := by
 have hr := hb.reads.1; have hlt := hb.lt; have HB := Hd hb; clear hb; go_enter Tryz.func140, Tryz.ntmps140
 go_wp2_with fail; go_loopw [8] (fun i wr => ∃ j : Nat, j ≤ l.length ∧ i = .int .i64 j ∧ Hid (∀ q ∈ l.take j, q = true) ∧ Hid (wr = w)) (fun i _ => l.length - (intOf i).toNat)
 case atStart => exact ⟨0, Nat.zero_le _, rfl, Hd (fun q hq => by cases hq), Hd rfl⟩
 case round =>
  obtain ⟨j, hj, rfl, HF, HW⟩ := hrel; obtain rfl := HW.out; by_cases hlt' : j < l.length
  · have g1 : (j : Int) < l.length := by omega
    have g2 : ¬ (j : Int) < 0 := by omega
    have c0 : wr.cell? ⟨b, j, none⟩ = some (.bool l[j]) := by rw [hr, List.getElem?_map, List.getElem?_eq_getElem hlt']; rfl
    have HTK := Hd (List.take_succ_eq_append_getElem hlt'); have HIN := Hd (List.getElem_mem hlt'); obtain ⟨q, hq⟩ : ∃ q, l[j] = q := ⟨_, rfl⟩; rw [hq] at c0 HTK HIN; clear hr hq; cases q
    · go_wp2_with fail
      go_ret; exact ⟨⟨_, rfl, by have h1 := HIN.out; simp [h1]⟩, Keeps.refl _ _⟩
    · go_wp2_with fail
      go_roundw
      case rel =>
       refine ⟨j + 1, by omega, by go_num, Hd ?_, Hd (by trivial)⟩; rw [HTK.out]; intro y hy; rcases List.mem_append.1 hy with hy | hy
       · exact HF.out y hy
       · rw [List.mem_singleton.1 hy]
      case measure => simp [intOf]; omega
  · obtain rfl : j = l.length := by omega
    rw [List.take_length] at HF; clear hr; go_wp2_with fail; go_ret; refine ⟨⟨-1, rfl, ?_⟩, Keeps.refl _ _⟩; have h1 : ¬ false ∈ l := fun h => by have := HF.out _ h; cases this
    simp [h1]
theorem contains_bools (w : World) (b : Nat) (l : List Bool) (hl : l.length ≤ 1000) (hb : Box w b 4 (l.map .bool)) : Calls Tryz.prog 79 #[.slice (some ⟨b, 0, none⟩) l.length l.length, .bool false] w fun e w' => e = .returned (.bool (l.contains false)) ∧ Ext w w' := by
 have HB := Hd hb; clear hb; go_enter Tryz.func79, Tryz.ntmps79
 go_wp2_with fail; refine (index_bools w b l hl HB.out).mono ?_; rintro e w2 ⟨⟨r, rfl, hr⟩, hE⟩; have HE := Hd hE; have HR := Hd hr; clear hE hr; go_wp2_with fail; go_ret; exact ⟨by rw [← HR.out]; rfl, HE.out⟩
end Go.Proofs.YtoadjbgpfihoiaaGreatDoor
