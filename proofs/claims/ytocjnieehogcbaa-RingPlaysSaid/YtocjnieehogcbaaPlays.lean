/- The walk of RingPlays: its function returns true, and of what was there nothing turns. Conditions: its argument lies as 'Acts' says. -/
import Derived.Test.YtocjnieehogcbaaCopies
import Derived.BigFrameIn
import Derived.BigGuardIn
set_option linter.unusedVariables false
set_option maxHeartbeats 400000
namespace Go.Proofs.Ytocjnieehogcbaa
open Go.RowKit
attribute [local go_sem] Oper.semAt_some

set_option maxRecDepth 100000 in
theorem plays_few {A : Nat → Prop} (w : World) (m : Int) (v : Value) (l : List Ac) (h : Acts w A v l) (hn : l.length ≤ 9223372036854775807) (hb : ∀ x ∈ l, x.item.bytes.length ≤ 9223372036854775807) (hf : fewOf l 60 = false) :
    Calls Try.prog 6 #[.int .i64 m, v] w fun e w' => e = .returned (.bool true) ∧ Ext w w' := by
  have HA := Lib.hid h
  have HB := Lib.hid hb
  obtain ⟨a, c, rfl, -⟩ := h.at
  clear h hb
  refine (callsIn_wide (n := 9)).1 (callsIn_of_wp_marks Try.func6 rfl trivial ?_ rfl)
  simp only [Try.ntmps6, List.size_toArray, List.length_cons, List.length_nil, Nat.reduceAdd, Nat.reduceSub, Array.replicate_succ, Array.replicate_zero, List.push_toArray, List.append_toArray, List.nil_append, List.cons_append]
  gi_wp2_with fail
  have bz0 := (Box.new w 4 [.bool false])
  have ez : Ext w (w.alloc (Obj.cells #[.bool false] 4)) := ((Keeps.refl NoB w).alloc _)
  have sz : (w.alloc (Obj.cells #[.bool false] 4)).heap.size = w.heap.size + 1 := by simp
  generalize (w.alloc (Obj.cells #[.bool false] 4)) = w0 at bz0 ez sz ⊢
  have Sz := Lib.hid sz
  clear sz
  have HE := Lib.hid ez
  have BR := Lib.hid bz0
  clear ez bz0
  refine ⟨trivial, callsIn_wide.2 ((few_any _ _ l 60 (HA.out.ext HE.out) hn HB.out).mono ?_)⟩
  rintro e w' ⟨rfl, rfl⟩
  rw [hf]
  gi_wp2_with fail
  refine ⟨trivial, callsIn_wide.2 ((works_any _).mono ?_)⟩
  rintro e w1 ⟨rfl, hE⟩
  have HE2 := Lib.hid (HE.out.ext hE)
  replace BR := Lib.hid (BR.out.ext hE)
  have hb := BR.out
  obtain ⟨c0, z0⟩ := hb.reads
  have l0 := hb.lt
  clear hE hb
  gi_wp2_with fail
  refine leaves_marks [] _ (by simp) (by simp) ?_
  intro w' hk
  have q0 : Box w' w.heap.size 4 [.bool true] := Box.keeps (w := _) (BR.out.set 0 (.bool true)) hk (by simp)
  refine ⟨.bool true, by simp [results, Try.results6, go_sem, q0.reads.1], rfl, ?_⟩
  exact (HE2.out.then ((Keeps.refl (OneB w.heap.size) w1).setOne 0 (.bool true)) (fun i hi h => by unfold OneB at h; omega)).then hk (fun i hi h => by simp at h)

/-- what 'played' handed on: no ring, or one -/
def RorN (w : World) (r : Option Addr) : Prop := r = none ∨ ∃ b R, r = some ⟨b, 0, none⟩ ∧ RingX w NoB b R
theorem RorN.ext {w w' : World} {r : Option Addr} (h : RorN w r) (hE : Ext w w') : RorN w' r := by
  rcases h with h | ⟨b, R, h1, h2⟩
  · exact .inl h
  · exact .inr ⟨b, R, h1, h2.ext hE⟩

set_option maxRecDepth 100000 in
set_option maxHeartbeats 1000000 in
theorem plays_in {A : Nat → Prop} (w : World) (m : Int) (v : Value) (l : List Ac) (h : Acts w A v l) (hn : l.length ≤ 9223372036854775807) (hb : ∀ x ∈ l, x.item.bytes.length ≤ 9223372036854775807) (hf : fewOf l 60 = true) (hA : ∀ k, A k → k < w.heap.size) :
    Calls Try.prog 6 #[.int .i64 m, v] w fun e w' => e = .returned (.bool true) ∧ Ext w w' := by
  obtain ⟨hs200, hl60⟩ := few_spec hf
  have HS := Lib.hid hs200
  have HA := Lib.hid h
  have HB := Lib.hid hb
  have HAl := Lib.hid hA
  obtain ⟨a, c, rfl, -⟩ := h.at
  clear h hb hA hs200
  have hz : ∀ w, (zeroValue 63).run Try.prog w = .ok (.agg ringZero) w := fun _ => by kernel_rfl
  have hsz := ringZero_size
  refine (callsIn_wide (n := 9)).1 (callsIn_of_wp_marks Try.func6 rfl trivial ?_ rfl)
  simp only [Try.ntmps6, List.size_toArray, List.length_cons, List.length_nil, Nat.reduceAdd, Nat.reduceSub, Array.replicate_succ, Array.replicate_zero, List.push_toArray, List.append_toArray, List.nil_append, List.cons_append]
  gi_wp2_with fail
  have bz0 := (Box.new w 4 [.bool false])
  have ez : Ext w (w.alloc (Obj.cells #[.bool false] 4)) := ((Keeps.refl NoB w).alloc _)
  have sz : (w.alloc (Obj.cells #[.bool false] 4)).heap.size = w.heap.size + 1 := by simp
  generalize (w.alloc (Obj.cells #[.bool false] 4)) = w0 at bz0 ez sz ⊢
  have Sz := Lib.hid sz
  clear sz
  have HE := Lib.hid ez
  have BR := Lib.hid bz0
  clear ez bz0
  refine ⟨trivial, callsIn_wide.2 ((few_any _ _ l 60 (HA.out.ext HE.out) hn HB.out).mono ?_)⟩
  rintro e w' ⟨rfl, rfl⟩
  rw [hf]
  gi_wp2_with fail
  have hp : Calls Try.prog 18 #[.int .i64 m, .slice a l.length c] w0 fun e w' => ∃ r v', e = .returned (.tuple #[.pointer r, v', .bool true]) ∧ (∃ i0 a1 n1 c1 i1, v' = .agg #[.int .i64 i0, .slice a1 n1 c1, .int .i64 i1]) ∧ RorN w' r ∧ Ext w0 w' := by
    by_cases hm : 1 ≤ m ∧ m ≤ 64
    · obtain ⟨k, rfl⟩ : ∃ k : Nat, m = k := ⟨m.toNat, by omega⟩
      refine (played_in w0 k _ l (HA.out.ext HE.out) (by omega) (by omega) HS.out (by omega) (fun k hk => Nat.lt_of_lt_of_le (HAl.out k hk) HE.out.size)).mono ?_
      rintro e w1 ⟨b, v', he, hr, hw, -, -, hE⟩
      obtain ⟨a1, c1, rfl⟩ := hw.len
      exact ⟨_, _, he, ⟨_, _, _, _, _, rfl⟩, .inr ⟨b, _, rfl, hr⟩, hE⟩
    · refine (played_out w0 m _ l (HA.out.ext HE.out) (by omega)).mono ?_
      rintro e w1 ⟨he, hE⟩
      exact ⟨_, _, he, ⟨_, _, _, _, _, rfl⟩, .inl rfl, hE⟩
  refine ⟨trivial, callsIn_wide.2 (hp.mono ?_)⟩
  rintro e w1 ⟨r, v', rfl, ⟨i0, a1, n1, c1, i1, rfl⟩, hr, hE⟩
  have HR := Lib.hid hr
  have HE1 := Lib.hid (HE.out.ext hE)
  replace BR := Lib.hid (BR.out.ext hE)
  clear hr hE hp
  gi_wp2_with fail
  · skip
    have by0 := (Box.new w1 48 [.int .i64 i0, .slice a1 n1 c1, .int .i64 i1])
    have ey : Ext w1 (w1.alloc (Obj.cells #[.int .i64 i0, .slice a1 n1 c1, .int .i64 i1] 48)) := ((Keeps.refl NoB w1).alloc _)
    have sy : (w1.alloc (Obj.cells #[.int .i64 i0, .slice a1 n1 c1, .int .i64 i1] 48)).heap.size = w1.heap.size + 1 := by simp
    generalize (w1.alloc (Obj.cells #[.int .i64 i0, .slice a1 n1 c1, .int .i64 i1] 48)) = w2 at by0 ey sy ⊢
    have Sy := Lib.hid sy
    clear sy
    have hr3 : ringZero[3]? = some (.int .i64 0) := by kernel_rfl
    have hnz : Nonish (w2.alloc (Obj.cells ringZero 63)) (some ⟨w1.heap.size + 1, 0, none⟩) := .inr ⟨_, rfl, by rw [← Sy.out, World.cell?_alloc_new]; exact hr3⟩
    have hEz : Ext w1 (w2.alloc (Obj.cells ringZero 63)) := ey.alloc _
    generalize w2.alloc (Obj.cells ringZero 63) = w3 at hnz hEz ⊢
    have HN := Lib.hid hnz
    clear by0 hnz hr3 ey hz hsz
    replace HR := Lib.hid (HR.out.ext hEz)
    replace HE1 := Lib.hid (HE1.out.ext hEz)
    replace BR := Lib.hid (BR.out.ext hEz)
    clear hEz
    refine ⟨trivial, callsIn_wide.2 ((main_any [] _).mono ?_)⟩
    rintro e w4 ⟨vi, rfl, hvi, hE⟩
    have HVI := Lib.hid hvi
    obtain ⟨bvi, rfl, hbi⟩ := hvi
    obtain ⟨ai, ci, rfl⟩ := hbi.len
    clear hbi
    -- one more call that turns nothing
    replace HN := Lib.hid (HN.out.ext hE)
    replace HR := Lib.hid (HR.out.ext hE)
    replace HE1 := Lib.hid (HE1.out.ext hE)
    replace BR := Lib.hid (BR.out.ext hE)
    clear hE
    gi_wp2_with fail
    refine ⟨trivial, callsIn_wide.2 ((put_none w4 (some ⟨w1.heap.size + 1, 0, none⟩) HN.out ⟨false, 0, []⟩ _ HVI.out).mono ?_)⟩
    rintro e w5 ⟨rfl, hE⟩
    -- one more call that turns nothing
    replace HN := Lib.hid (HN.out.ext hE)
    replace HR := Lib.hid (HR.out.ext hE)
    replace HE1 := Lib.hid (HE1.out.ext hE)
    replace BR := Lib.hid (BR.out.ext hE)
    clear hE
    gi_wp2_with fail
    refine ⟨trivial, callsIn_wide.2 ((take_none w5 (some ⟨w1.heap.size + 1, 0, none⟩) HN.out).mono ?_)⟩
    rintro e w6 ⟨rfl, hE⟩
    -- one more call that turns nothing
    replace HN := Lib.hid (HN.out.ext hE)
    replace HR := Lib.hid (HR.out.ext hE)
    replace HE1 := Lib.hid (HE1.out.ext hE)
    replace BR := Lib.hid (BR.out.ext hE)
    clear hE
    gi_wp2_with fail
    have bq0 := (Box.new w6 31 [.bool false, .int .i64 0, .slice none 0 0])
    have eq : Ext w6 (w6.alloc (Obj.cells #[.bool false, .int .i64 0, .slice none 0 0] 31)) := ((Keeps.refl NoB w6).alloc _)
    have sq : (w6.alloc (Obj.cells #[.bool false, .int .i64 0, .slice none 0 0] 31)).heap.size = w6.heap.size + 1 := by simp
    generalize (w6.alloc (Obj.cells #[.bool false, .int .i64 0, .slice none 0 0] 31)) = w7 at bq0 eq sq ⊢
    have Sq := Lib.hid sq
    clear sq
    clear bq0
    -- one more call that turns nothing
    replace HN := Lib.hid (HN.out.ext eq)
    replace HR := Lib.hid (HR.out.ext eq)
    replace HE1 := Lib.hid (HE1.out.ext eq)
    replace BR := Lib.hid (BR.out.ext eq)
    clear eq
    refine ⟨trivial, callsIn_wide.2 ((len_none w7 (some ⟨w1.heap.size + 1, 0, none⟩) HN.out).mono ?_)⟩
    rintro e w8 ⟨rfl, hE⟩
    -- one more call that turns nothing
    replace HN := Lib.hid (HN.out.ext hE)
    replace HR := Lib.hid (HR.out.ext hE)
    replace HE1 := Lib.hid (HE1.out.ext hE)
    replace BR := Lib.hid (BR.out.ext hE)
    clear hE
    have hm0 : mains [] = 0 := rfl
    have hs0 : sides [] = 0 := rfl
    gi_wp2_with fail
    refine ⟨trivial, callsIn_wide.2 ((all_none w8 (some ⟨w1.heap.size + 1, 0, none⟩) HN.out).mono ?_)⟩
    rintro e w9 ⟨rfl, -, hE⟩
    -- one more call that turns nothing
    replace HN := Lib.hid (HN.out.ext hE)
    replace HR := Lib.hid (HR.out.ext hE)
    replace HE1 := Lib.hid (HE1.out.ext hE)
    replace BR := Lib.hid (BR.out.ext hE)
    clear hE
    have hsn := seq_nil w9 41 (some ⟨w8.heap.size, 0, none⟩)
    gi_wp2_with fail
    refine ⟨trivial, callsIn_wide.2 ((all_none w9 (some ⟨w1.heap.size + 1, 0, none⟩) HN.out).mono ?_)⟩
    rintro e w10 ⟨rfl, hs, hE⟩
    have HSQ := Lib.hid hs
    -- one more call that turns nothing
    replace HN := Lib.hid (HN.out.ext hE)
    replace HR := Lib.hid (HR.out.ext hE)
    replace HE1 := Lib.hid (HE1.out.ext hE)
    replace BR := Lib.hid (BR.out.ext hE)
    clear hE
    clear hs hsn
    gi_wp2_with fail
    refine wpIn_range rfl (by omega) (gf := 41) (lb := #[.pointer (some ⟨w9.heap.size, 0, none⟩)]) rfl trivial (enters_of Try.func41 (by kernel_rfl) rfl)
      (S := NoB) (iter_ring w10 w9.heap.size [] HSQ.out (noB _) (fun k _ => noB _) (by simp) (by simp)) (by rintro x v W0 W ⟨bv, rfl, _⟩; rfl)
      (fun k W => Keeps NoB w10 W) (fun _ _ _ => False) (fun k W h => h) (fun k W W' h hk => h.then hk (fun i hi h => by unfold OneB at h; omega))
      (fun _ _ _ _ h _ => h) (Keeps.refl _ _) (fun k hk => by simp at hk) ?_ (fun _ _ _ _ h _ => h.elim)
    intro w11 hE hm
    have HM := Lib.hid hm
    have h10w : w.heap.size < w10.heap.size := by have h1 := hE.size; have h2 := BR.out.lt; exact h2
    -- one more call that turns nothing
    replace HN := Lib.hid (HN.out.ext hE)
    replace HR := Lib.hid (HR.out.ext hE)
    replace HE1 := Lib.hid (HE1.out.ext hE)
    replace BR := Lib.hid (BR.out.ext hE)
    clear hE
    clear hm
    gi_wp2_with fail
    refine ⟨trivial, callsIn_wide.2 ((num_any _ _).mono ?_)⟩
    rintro e w' ⟨rfl, rfl⟩
    gi_wp2_with fail
    refine ⟨trivial, callsIn_wide.2 ((clear_none w11 (some ⟨w1.heap.size + 1, 0, none⟩) HN.out).mono ?_)⟩
    rintro e w12 ⟨rfl, hE⟩
    have HM12 := Lib.hid (HM.out.keeps hE (noB _))
    -- one more call that turns nothing
    replace HN := Lib.hid (HN.out.ext hE)
    replace HR := Lib.hid (HR.out.ext hE)
    replace HE1 := Lib.hid (HE1.out.ext hE)
    replace BR := Lib.hid (BR.out.ext hE)
    clear hE
    gi_wp2_with fail
    refine ⟨trivial, callsIn_wide.2 ((room_none w12 (some ⟨w1.heap.size + 1, 0, none⟩) HN.out).mono ?_)⟩
    rintro e w' ⟨rfl, rfl⟩
    gi_wp2_with fail
    refine ⟨trivial, callsIn_wide.2 ((lost_none w12 (some ⟨w1.heap.size + 1, 0, none⟩) HN.out).mono ?_)⟩
    rintro e w' ⟨rfl, rfl⟩
    gi_wp2_with fail
    refine ⟨trivial, callsIn_wide.2 ((copy_none w12 (some ⟨w1.heap.size + 1, 0, none⟩) HN.out).mono ?_)⟩
    rintro e w13 ⟨rfl, hE⟩
    have HM13 := Lib.hid (HM12.out.keeps hE (noB _))
    -- one more call that turns nothing
    replace HN := Lib.hid (HN.out.ext hE)
    replace HR := Lib.hid (HR.out.ext hE)
    replace HE1 := Lib.hid (HE1.out.ext hE)
    replace BR := Lib.hid (BR.out.ext hE)
    clear hE
    gi_wp2_with fail
    refine ⟨trivial, callsIn_wide.2 ((same_nn w13 (some ⟨w1.heap.size + 1, 0, none⟩) none HN.out (.inl rfl)).mono ?_)⟩
    rintro e w' ⟨rfl, rfl⟩
    rcases HR.out with rfl | ⟨b, R, rfl, hrx⟩
    · have hb := BR.out
      gi_wp2_with fail
      refine ⟨trivial, ?_⟩
      gi_wp2_with fail
      · rename_i xx bb hh h2
        exact absurd hh (by unfold undef; simp)
      · rename_i xx bb hh h2
        exact absurd hh (by unfold undef; simp)
      refine ⟨trivial, ?_⟩
      gi_wp2_with fail
      clear hb
      refine ⟨trivial, callsIn_wide.2 ((works_any _).mono ?_)⟩
      rintro e w14 ⟨rfl, hE⟩
      have HM14 := Lib.hid (HM13.out.keeps hE (noB _))
      have HE14 := Lib.hid (HE1.out.ext hE)
      have BR14 := Lib.hid (BR.out.ext hE)
      have hb := BR14.out
      obtain ⟨c0, z0⟩ := hb.reads
      have l0 := hb.lt
      have hlt := HM14.out.lt
      clear hE hb
      gi_wp2_with fail
      refine leaves_marks [w10.heap.size] _ (by simp) ?_ ?_
      · intro D hD
        obtain rfl : D = w10.heap.size := by simpa using hD
        exact HM14.out.keeps (S := OneB w.heap.size) ((Keeps.refl _ _).setOne _ _) (by unfold OneB; omega)
      · intro w' hk
        have q0 : Box w' w.heap.size 4 [.bool true] := Box.keeps (w := _) (BR14.out.set 0 (.bool true)) hk (by simp; omega)
        refine ⟨.bool true, by simp [results, Try.results6, go_sem, q0.reads.1], rfl, ?_⟩
        exact (HE14.out.then ((Keeps.refl (OneB w.heap.size) w14).setOne 0 (.bool true)) (fun i hi h => by unfold OneB at h; omega)).then hk (fun i hi h => by simp at h; omega)
    · have HRX := Lib.hid hrx
      clear hrx
      gi_wp2_with fail
      refine ⟨trivial, callsIn_wide.2 ((same_xn w13 b R (some ⟨w1.heap.size + 1, 0, none⟩) HRX.out HN.out).mono ?_)⟩
      rintro e w' ⟨rfl, rfl⟩
      gi_wp2_with fail
      refine ⟨trivial, callsIn_wide.2 ((same_nx w13 b R (some ⟨w1.heap.size + 1, 0, none⟩) HRX.out HN.out).mono ?_)⟩
      rintro e w' ⟨rfl, rfl⟩
      have hb := BR.out
      gi_wp2_with fail
      clear hb
      refine ⟨trivial, callsIn_wide.2 ((works_any _).mono ?_)⟩
      rintro e w14 ⟨rfl, hE⟩
      have HM14 := Lib.hid (HM13.out.keeps hE (noB _))
      have HE14 := Lib.hid (HE1.out.ext hE)
      have BR14 := Lib.hid (BR.out.ext hE)
      have hb := BR14.out
      obtain ⟨c0, z0⟩ := hb.reads
      have l0 := hb.lt
      have hlt := HM14.out.lt
      clear hE hb
      gi_wp2_with fail
      refine leaves_marks [w10.heap.size] _ (by simp) ?_ ?_
      · intro D hD
        obtain rfl : D = w10.heap.size := by simpa using hD
        exact HM14.out.keeps (S := OneB w.heap.size) ((Keeps.refl _ _).setOne _ _) (by unfold OneB; omega)
      · intro w' hk
        have q0 : Box w' w.heap.size 4 [.bool true] := Box.keeps (w := _) (BR14.out.set 0 (.bool true)) hk (by simp; omega)
        refine ⟨.bool true, by simp [results, Try.results6, go_sem, q0.reads.1], rfl, ?_⟩
        exact (HE14.out.then ((Keeps.refl (OneB w.heap.size) w14).setOne 0 (.bool true)) (fun i hi h => by unfold OneB at h; omega)).then hk (fun i hi h => by simp at h; omega)
  · skip
    have by0 := (Box.new w1 48 [.int .i64 i0, .slice a1 n1 c1, .int .i64 i1])
    have ey : Ext w1 (w1.alloc (Obj.cells #[.int .i64 i0, .slice a1 n1 c1, .int .i64 i1] 48)) := ((Keeps.refl NoB w1).alloc _)
    have sy : (w1.alloc (Obj.cells #[.int .i64 i0, .slice a1 n1 c1, .int .i64 i1] 48)).heap.size = w1.heap.size + 1 := by simp
    generalize (w1.alloc (Obj.cells #[.int .i64 i0, .slice a1 n1 c1, .int .i64 i1] 48)) = w3 at by0 ey sy ⊢
    have Sy := Lib.hid sy
    clear sy
    have HN : Hid (Nonish w3 none) := Lib.hid (.inl rfl)
    clear by0 hz hsz
    replace HR := Lib.hid (HR.out.ext ey)
    replace HE1 := Lib.hid (HE1.out.ext ey)
    replace BR := Lib.hid (BR.out.ext ey)
    clear ey
    refine ⟨trivial, callsIn_wide.2 ((main_any [] _).mono ?_)⟩
    rintro e w4 ⟨vi, rfl, hvi, hE⟩
    have HVI := Lib.hid hvi
    obtain ⟨bvi, rfl, hbi⟩ := hvi
    obtain ⟨ai, ci, rfl⟩ := hbi.len
    clear hbi
    -- one more call that turns nothing
    replace HN := Lib.hid (HN.out.ext hE)
    replace HR := Lib.hid (HR.out.ext hE)
    replace HE1 := Lib.hid (HE1.out.ext hE)
    replace BR := Lib.hid (BR.out.ext hE)
    clear hE
    gi_wp2_with fail
    refine ⟨trivial, callsIn_wide.2 ((put_none w4 none HN.out ⟨false, 0, []⟩ _ HVI.out).mono ?_)⟩
    rintro e w5 ⟨rfl, hE⟩
    -- one more call that turns nothing
    replace HN := Lib.hid (HN.out.ext hE)
    replace HR := Lib.hid (HR.out.ext hE)
    replace HE1 := Lib.hid (HE1.out.ext hE)
    replace BR := Lib.hid (BR.out.ext hE)
    clear hE
    gi_wp2_with fail
    refine ⟨trivial, callsIn_wide.2 ((take_none w5 none HN.out).mono ?_)⟩
    rintro e w6 ⟨rfl, hE⟩
    -- one more call that turns nothing
    replace HN := Lib.hid (HN.out.ext hE)
    replace HR := Lib.hid (HR.out.ext hE)
    replace HE1 := Lib.hid (HE1.out.ext hE)
    replace BR := Lib.hid (BR.out.ext hE)
    clear hE
    gi_wp2_with fail
    have bq0 := (Box.new w6 31 [.bool false, .int .i64 0, .slice none 0 0])
    have eq : Ext w6 (w6.alloc (Obj.cells #[.bool false, .int .i64 0, .slice none 0 0] 31)) := ((Keeps.refl NoB w6).alloc _)
    have sq : (w6.alloc (Obj.cells #[.bool false, .int .i64 0, .slice none 0 0] 31)).heap.size = w6.heap.size + 1 := by simp
    generalize (w6.alloc (Obj.cells #[.bool false, .int .i64 0, .slice none 0 0] 31)) = w7 at bq0 eq sq ⊢
    have Sq := Lib.hid sq
    clear sq
    clear bq0
    -- one more call that turns nothing
    replace HN := Lib.hid (HN.out.ext eq)
    replace HR := Lib.hid (HR.out.ext eq)
    replace HE1 := Lib.hid (HE1.out.ext eq)
    replace BR := Lib.hid (BR.out.ext eq)
    clear eq
    refine ⟨trivial, callsIn_wide.2 ((len_none w7 none HN.out).mono ?_)⟩
    rintro e w8 ⟨rfl, hE⟩
    -- one more call that turns nothing
    replace HN := Lib.hid (HN.out.ext hE)
    replace HR := Lib.hid (HR.out.ext hE)
    replace HE1 := Lib.hid (HE1.out.ext hE)
    replace BR := Lib.hid (BR.out.ext hE)
    clear hE
    have hm0 : mains [] = 0 := rfl
    have hs0 : sides [] = 0 := rfl
    gi_wp2_with fail
    refine ⟨trivial, callsIn_wide.2 ((all_none w8 none HN.out).mono ?_)⟩
    rintro e w9 ⟨rfl, -, hE⟩
    -- one more call that turns nothing
    replace HN := Lib.hid (HN.out.ext hE)
    replace HR := Lib.hid (HR.out.ext hE)
    replace HE1 := Lib.hid (HE1.out.ext hE)
    replace BR := Lib.hid (BR.out.ext hE)
    clear hE
    have hsn := seq_nil w9 41 (some ⟨w8.heap.size, 0, none⟩)
    gi_wp2_with fail
    refine ⟨trivial, callsIn_wide.2 ((all_none w9 none HN.out).mono ?_)⟩
    rintro e w10 ⟨rfl, hs, hE⟩
    have HSQ := Lib.hid hs
    -- one more call that turns nothing
    replace HN := Lib.hid (HN.out.ext hE)
    replace HR := Lib.hid (HR.out.ext hE)
    replace HE1 := Lib.hid (HE1.out.ext hE)
    replace BR := Lib.hid (BR.out.ext hE)
    clear hE
    clear hs hsn
    gi_wp2_with fail
    refine wpIn_range rfl (by omega) (gf := 41) (lb := #[.pointer (some ⟨w9.heap.size, 0, none⟩)]) rfl trivial (enters_of Try.func41 (by kernel_rfl) rfl)
      (S := NoB) (iter_ring w10 w9.heap.size [] HSQ.out (noB _) (fun k _ => noB _) (by simp) (by simp)) (by rintro x v W0 W ⟨bv, rfl, _⟩; rfl)
      (fun k W => Keeps NoB w10 W) (fun _ _ _ => False) (fun k W h => h) (fun k W W' h hk => h.then hk (fun i hi h => by unfold OneB at h; omega))
      (fun _ _ _ _ h _ => h) (Keeps.refl _ _) (fun k hk => by simp at hk) ?_ (fun _ _ _ _ h _ => h.elim)
    intro w11 hE hm
    have HM := Lib.hid hm
    have h10w : w.heap.size < w10.heap.size := by have h1 := hE.size; have h2 := BR.out.lt; exact h2
    -- one more call that turns nothing
    replace HN := Lib.hid (HN.out.ext hE)
    replace HR := Lib.hid (HR.out.ext hE)
    replace HE1 := Lib.hid (HE1.out.ext hE)
    replace BR := Lib.hid (BR.out.ext hE)
    clear hE
    clear hm
    gi_wp2_with fail
    refine ⟨trivial, callsIn_wide.2 ((num_any _ _).mono ?_)⟩
    rintro e w' ⟨rfl, rfl⟩
    gi_wp2_with fail
    refine ⟨trivial, callsIn_wide.2 ((clear_none w11 none HN.out).mono ?_)⟩
    rintro e w12 ⟨rfl, hE⟩
    have HM12 := Lib.hid (HM.out.keeps hE (noB _))
    -- one more call that turns nothing
    replace HN := Lib.hid (HN.out.ext hE)
    replace HR := Lib.hid (HR.out.ext hE)
    replace HE1 := Lib.hid (HE1.out.ext hE)
    replace BR := Lib.hid (BR.out.ext hE)
    clear hE
    gi_wp2_with fail
    refine ⟨trivial, callsIn_wide.2 ((room_none w12 none HN.out).mono ?_)⟩
    rintro e w' ⟨rfl, rfl⟩
    gi_wp2_with fail
    refine ⟨trivial, callsIn_wide.2 ((lost_none w12 none HN.out).mono ?_)⟩
    rintro e w' ⟨rfl, rfl⟩
    gi_wp2_with fail
    refine ⟨trivial, callsIn_wide.2 ((copy_none w12 none HN.out).mono ?_)⟩
    rintro e w13 ⟨rfl, hE⟩
    have HM13 := Lib.hid (HM12.out.keeps hE (noB _))
    -- one more call that turns nothing
    replace HN := Lib.hid (HN.out.ext hE)
    replace HR := Lib.hid (HR.out.ext hE)
    replace HE1 := Lib.hid (HE1.out.ext hE)
    replace BR := Lib.hid (BR.out.ext hE)
    clear hE
    gi_wp2_with fail
    refine ⟨trivial, callsIn_wide.2 ((same_nn w13 none none HN.out (.inl rfl)).mono ?_)⟩
    rintro e w' ⟨rfl, rfl⟩
    rcases HR.out with rfl | ⟨b, R, rfl, hrx⟩
    · have hb := BR.out
      gi_wp2_with fail
      refine ⟨trivial, ?_⟩
      gi_wp2_with fail
      · rename_i xx bb hh h2
        exact absurd hh (by unfold undef; simp)
      · rename_i xx bb hh h2
        exact absurd hh (by unfold undef; simp)
      refine ⟨trivial, ?_⟩
      gi_wp2_with fail
      clear hb
      refine ⟨trivial, callsIn_wide.2 ((works_any _).mono ?_)⟩
      rintro e w14 ⟨rfl, hE⟩
      have HM14 := Lib.hid (HM13.out.keeps hE (noB _))
      have HE14 := Lib.hid (HE1.out.ext hE)
      have BR14 := Lib.hid (BR.out.ext hE)
      have hb := BR14.out
      obtain ⟨c0, z0⟩ := hb.reads
      have l0 := hb.lt
      have hlt := HM14.out.lt
      clear hE hb
      gi_wp2_with fail
      refine leaves_marks [w10.heap.size] _ (by simp) ?_ ?_
      · intro D hD
        obtain rfl : D = w10.heap.size := by simpa using hD
        exact HM14.out.keeps (S := OneB w.heap.size) ((Keeps.refl _ _).setOne _ _) (by unfold OneB; omega)
      · intro w' hk
        have q0 : Box w' w.heap.size 4 [.bool true] := Box.keeps (w := _) (BR14.out.set 0 (.bool true)) hk (by simp; omega)
        refine ⟨.bool true, by simp [results, Try.results6, go_sem, q0.reads.1], rfl, ?_⟩
        exact (HE14.out.then ((Keeps.refl (OneB w.heap.size) w14).setOne 0 (.bool true)) (fun i hi h => by unfold OneB at h; omega)).then hk (fun i hi h => by simp at h; omega)
    · have HRX := Lib.hid hrx
      clear hrx
      gi_wp2_with fail
      refine ⟨trivial, callsIn_wide.2 ((same_xn w13 b R none HRX.out HN.out).mono ?_)⟩
      rintro e w' ⟨rfl, rfl⟩
      gi_wp2_with fail
      refine ⟨trivial, callsIn_wide.2 ((same_nx w13 b R none HRX.out HN.out).mono ?_)⟩
      rintro e w' ⟨rfl, rfl⟩
      have hb := BR.out
      gi_wp2_with fail
      clear hb
      refine ⟨trivial, callsIn_wide.2 ((works_any _).mono ?_)⟩
      rintro e w14 ⟨rfl, hE⟩
      have HM14 := Lib.hid (HM13.out.keeps hE (noB _))
      have HE14 := Lib.hid (HE1.out.ext hE)
      have BR14 := Lib.hid (BR.out.ext hE)
      have hb := BR14.out
      obtain ⟨c0, z0⟩ := hb.reads
      have l0 := hb.lt
      have hlt := HM14.out.lt
      clear hE hb
      gi_wp2_with fail
      refine leaves_marks [w10.heap.size] _ (by simp) ?_ ?_
      · intro D hD
        obtain rfl : D = w10.heap.size := by simpa using hD
        exact HM14.out.keeps (S := OneB w.heap.size) ((Keeps.refl _ _).setOne _ _) (by unfold OneB; omega)
      · intro w' hk
        have q0 : Box w' w.heap.size 4 [.bool true] := Box.keeps (w := _) (BR14.out.set 0 (.bool true)) hk (by simp; omega)
        refine ⟨.bool true, by simp [results, Try.results6, go_sem, q0.reads.1], rfl, ?_⟩
        exact (HE14.out.then ((Keeps.refl (OneB w.heap.size) w14).setOne 0 (.bool true)) (fun i hi h => by unfold OneB at h; omega)).then hk (fun i hi h => by simp at h; omega)
end Go.Proofs.Ytocjnieehogcbaa
