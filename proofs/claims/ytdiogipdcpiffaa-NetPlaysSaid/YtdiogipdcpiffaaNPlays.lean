/- The walk of NetPlays: its function returns true, and of what was there nothing turns. Conditions: its argument lies as 'Acts' says. -/
import Derived.Test.YtdiogipdcpiffaaNNone
import Derived.BigFrameIn
import Derived.BigGuardIn
set_option linter.unusedVariables false
set_option maxHeartbeats 400000
set_option maxRecDepth 10000
namespace Go.Proofs.Ytdiogipdcpiffaa
open Go.RowKit
attribute [local go_sem] Oper.semAt_some

set_option maxRecDepth 100000 in
theorem plays_few {A : Nat → Prop} (w : World) (en m : Int) (v : Value) (l : List Ac) (h : Acts w A v l) (hn : l.length ≤ 9223372036854775807) (hb : ∀ x ∈ l, x.bytes.length ≤ 9223372036854775807) (hf : fewOf l 50 = false) :
    Calls Try.prog 8 #[.int .i64 en, .int .i64 m, v] w fun e w' => e = .returned (.bool true) ∧ Ext w w' := by
  have HA := Lib.hid h
  have HB := Lib.hid hb
  obtain ⟨a, c, rfl, -⟩ := h.at
  clear h hb
  refine (callsIn_wide (n := 9)).1 (callsIn_of_wp_marks Try.func8 rfl trivial ?_ rfl)
  simp only [Try.ntmps8, List.size_toArray, List.length_cons, List.length_nil, Nat.reduceAdd, Nat.reduceSub, Array.replicate_succ, Array.replicate_zero, List.push_toArray, List.append_toArray, List.nil_append, List.cons_append]
  gi_wp2_with fail
  have bz0 := (Box.new w 4 [.bool false])
  have ez : Ext w (w.alloc (Obj.cells #[.bool false] 4)) := ((Keeps.refl NoB w).alloc _)
  have sz : (w.alloc (Obj.cells #[.bool false] 4)).heap.size = w.heap.size + 1 := by simp
  generalize (w.alloc (Obj.cells #[.bool false] 4)) = w0 at bz0 ez sz ⊢
  have Sz := Lib.hid sz
  clear sz
  have HE := Lib.hid ez
  have BR := Lib.hid bz0
  clear ez bz0
  refine ⟨trivial, callsIn_wide.2 ((few_any _ _ l 50 (HA.out.ext HE.out) hn HB.out).mono ?_)⟩
  rintro e w' ⟨rfl, rfl⟩
  rw [hf]
  gi_wp2_with fail
  refine ⟨trivial, callsIn_wide.2 ((works_any _).mono ?_)⟩
  rintro e w1 ⟨rfl, hE⟩
  replace HE := Lib.hid (HE.out.ext hE)
  replace BR := Lib.hid (BR.out.ext hE)
  clear hE
  obtain ⟨cBR, zBR⟩ := BR.out.reads
  have lBR := BR.out.lt
  gi_wp2_with fail
  clear cBR zBR lBR
  refine leaves_marks [] _ (by simp) (by simp) ?_
  intro w' hk
  have q0 : Box w' w.heap.size 4 [.bool true] := Box.keeps (w := _) (BR.out.set 0 (.bool true)) hk (by simp)
  refine ⟨.bool true, by simp [results, Try.results8, go_sem, q0.reads.1], rfl, ?_⟩
  exact (HE.out.then ((Keeps.refl (OneB w.heap.size) w1).setOne 0 (.bool true)) (fun i hi h => by unfold OneB at h; omega)).then hk (fun i hi h => by simp at h)

/-- what 'played' handed on: no net, or one -/
def RorN (w : World) (r : Option Addr) : Prop := r = none ∨ ∃ F M b N, r = some ⟨b, 0, none⟩ ∧ NetX w F M b N
theorem RorN.ext {w w' : World} {r : Option Addr} (h : RorN w r) (hE : Ext w w') : RorN w' r := by
  rcases h with h | ⟨F, M, b, N, h1, h2⟩
  · exact .inl h
  · exact .inr ⟨F, M, b, N, h1, h2.ext hE⟩
set_option maxRecDepth 100000 in
set_option maxHeartbeats 4000000 in
theorem plays_in {A : Nat → Prop} (w : World) (en m : Int) (v : Value) (l : List Ac) (h : Acts w A v l) (hn : l.length ≤ 9223372036854775807) (hb : ∀ x ∈ l, x.bytes.length ≤ 9223372036854775807) (hf : fewOf l 50 = true) (hok : ∀ x ∈ l, x.ok) (hA : ∀ k, A k → k < w.heap.size) :
    Calls Try.prog 8 #[.int .i64 en, .int .i64 m, v] w fun e w' => e = .returned (.bool true) ∧ Ext w w' := by
  obtain ⟨hs200, hl60⟩ := few_spec hf
  have HS := Lib.hid hs200
  have HOK := Lib.hid hok
  have HA := Lib.hid h
  have HB := Lib.hid hb
  have HAl := Lib.hid hA
  obtain ⟨a, c, rfl, -⟩ := h.at
  clear h hb hA hs200 hok
  refine (callsIn_wide (n := 9)).1 (callsIn_of_wp_marks Try.func8 rfl trivial ?_ rfl)
  simp only [Try.ntmps8, List.size_toArray, List.length_cons, List.length_nil, Nat.reduceAdd, Nat.reduceSub, Array.replicate_succ, Array.replicate_zero, List.push_toArray, List.append_toArray, List.nil_append, List.cons_append]
  gi_wp2_with fail
  have bz0 := (Box.new w 4 [.bool false])
  have ez : Ext w (w.alloc (Obj.cells #[.bool false] 4)) := ((Keeps.refl NoB w).alloc _)
  have sz : (w.alloc (Obj.cells #[.bool false] 4)).heap.size = w.heap.size + 1 := by simp
  generalize (w.alloc (Obj.cells #[.bool false] 4)) = w0 at bz0 ez sz ⊢
  have Sz := Lib.hid sz
  clear sz
  have HE := Lib.hid ez
  have BR := Lib.hid bz0
  clear ez bz0
  refine ⟨trivial, callsIn_wide.2 ((few_any _ _ l 50 (HA.out.ext HE.out) hn HB.out).mono ?_)⟩
  rintro e w' ⟨rfl, rfl⟩
  rw [hf]
  gi_wp2_with fail
  have hp : Calls Try.prog 16 #[.int .i64 en, .int .i64 m, .slice a l.length c] w0 fun e w' => ∃ r v', e = .returned (.tuple #[.pointer r, v', .bool true]) ∧ (∃ i0 i1 i2 a1 n1 c1 a2 n2 c2, v' = .agg #[.int .i64 i0, .int .i64 i1, .int .i64 i2, .slice a1 n1 c1, .slice a2 n2 c2]) ∧ RorN w' r ∧ Ext w0 w' := by
    by_cases hm : (1 ≤ en ∧ en ≤ 64) ∧ (1 ≤ m ∧ m ≤ 4096)
    · obtain ⟨k, rfl⟩ : ∃ k : Nat, en = k := ⟨en.toNat, by omega⟩
      obtain ⟨j, rfl⟩ : ∃ j : Nat, m = j := ⟨m.toNat, by omega⟩
      refine (played_in w0 k j _ l (HA.out.ext HE.out) (by omega) (by omega) (by omega) (by omega) (fun x hx => ⟨HOK.out x hx, HS.out x hx⟩) (by omega) (fun k hk => Nat.lt_of_lt_of_le (HAl.out k hk) HE.out.size)).mono ?_
      rintro e w1 ⟨F, M, b, v', he, hr, hw, -⟩
      obtain ⟨a1, c1, a1', c1', rfl⟩ := hw.len
      exact ⟨_, _, he, ⟨_, _, _, _, _, _, _, _, _, rfl⟩, .inr ⟨F, M, b, _, rfl, hr.net⟩, hr.E⟩
    · refine (played_out w0 en m _ l (HA.out.ext HE.out) (by omega)).mono ?_
      rintro e w1 ⟨he, hE⟩
      exact ⟨_, _, he, ⟨_, _, _, _, _, _, _, _, _, rfl⟩, .inl rfl, hE⟩
  refine ⟨trivial, callsIn_wide.2 (hp.mono ?_)⟩
  rintro e w1 ⟨r, v', rfl, ⟨i0, i1, i2, a1, n1, c1, a2, n2, c2, rfl⟩, hr, hE⟩
  have HR := Lib.hid hr
  replace HE := Lib.hid (HE.out.ext hE)
  replace BR := Lib.hid (BR.out.ext hE)
  clear hr hE hp
  gi_wp2_with fail
  · skip
    have by0 := ((Box.new w1 41 [.int .i64 i0, .int .i64 i1, .int .i64 i2, .slice a1 n1 c1, .slice a2 n2 c2]).alloc (Obj.cells #[.int .i64 0, .int .i64 0, .int .i64 0, .slice none 0 0, .map none] 72))
    have by1 := (Box.new (w1.alloc (Obj.cells #[.int .i64 i0, .int .i64 i1, .int .i64 i2, .slice a1 n1 c1, .slice a2 n2 c2] 41)) 72 [.int .i64 0, .int .i64 0, .int .i64 0, .slice none 0 0, .map none])
    have ey : Ext w1 ((w1.alloc (Obj.cells #[.int .i64 i0, .int .i64 i1, .int .i64 i2, .slice a1 n1 c1, .slice a2 n2 c2] 41)).alloc (Obj.cells #[.int .i64 0, .int .i64 0, .int .i64 0, .slice none 0 0, .map none] 72)) := (((Keeps.refl NoB w1).alloc _).alloc _)
    have sy : ((w1.alloc (Obj.cells #[.int .i64 i0, .int .i64 i1, .int .i64 i2, .slice a1 n1 c1, .slice a2 n2 c2] 41)).alloc (Obj.cells #[.int .i64 0, .int .i64 0, .int .i64 0, .slice none 0 0, .map none] 72)).heap.size = w1.heap.size + 2 := by simp
    simp only [World.size_alloc] at by1
    generalize ((w1.alloc (Obj.cells #[.int .i64 i0, .int .i64 i1, .int .i64 i2, .slice a1 n1 c1, .slice a2 n2 c2] 41)).alloc (Obj.cells #[.int .i64 0, .int .i64 0, .int .i64 0, .slice none 0 0, .map none] 72)) = w3 at by0 by1 ey sy ⊢
    have Sy := Lib.hid sy
    clear sy
    have HN : Hid (NoNet w3 (some ⟨w1.heap.size + 1, 0, none⟩)) := Lib.hid (.inr ⟨_, rfl, by1.reads.1 4⟩)
    replace HR := Lib.hid (HR.out.ext ey)
    replace HE := Lib.hid (HE.out.ext ey)
    replace BR := Lib.hid (BR.out.ext ey)
    clear by0 by1 ey
    refine ⟨trivial, callsIn_wide.2 ((put_no w3 HN.out 0 0).mono ?_)⟩
    rintro e w4 ⟨rfl, hE⟩
    replace HN := Lib.hid (HN.out.ext hE)
    replace HR := Lib.hid (HR.out.ext hE)
    replace HE := Lib.hid (HE.out.ext hE)
    replace BR := Lib.hid (BR.out.ext hE)
    clear hE
    gi_wp2_with fail

    refine ⟨trivial, callsIn_wide.2 ((peek_no w4 HN.out 0 0 0).mono ?_)⟩
    rintro e w5 ⟨rfl, hE⟩
    replace HN := Lib.hid (HN.out.ext hE)
    replace HR := Lib.hid (HR.out.ext hE)
    replace HE := Lib.hid (HE.out.ext hE)
    replace BR := Lib.hid (BR.out.ext hE)
    clear hE
    simp only [zeroP]
    gi_wp2_with fail
    have bq0 := (Box.new w5 50 [.int .i64 0, .int .i64 0, .int .i64 0, .slice none 0 0])
    have eq : Ext w5 (w5.alloc (Obj.cells #[.int .i64 0, .int .i64 0, .int .i64 0, .slice none 0 0] 50)) := ((Keeps.refl NoB w5).alloc _)
    have sq : (w5.alloc (Obj.cells #[.int .i64 0, .int .i64 0, .int .i64 0, .slice none 0 0] 50)).heap.size = w5.heap.size + 1 := by simp
    generalize (w5.alloc (Obj.cells #[.int .i64 0, .int .i64 0, .int .i64 0, .slice none 0 0] 50)) = w6 at bq0 eq sq ⊢
    have Sq := Lib.hid sq
    clear sq
    clear bq0
    replace HN := Lib.hid (HN.out.ext eq)
    replace HR := Lib.hid (HR.out.ext eq)
    replace HE := Lib.hid (HE.out.ext eq)
    replace BR := Lib.hid (BR.out.ext eq)
    clear eq
    refine ⟨trivial, callsIn_wide.2 ((take_no w6 HN.out 0 0 0).mono ?_)⟩
    rintro e w7 ⟨rfl, hE⟩
    replace HN := Lib.hid (HN.out.ext hE)
    replace HR := Lib.hid (HR.out.ext hE)
    replace HE := Lib.hid (HE.out.ext hE)
    replace BR := Lib.hid (BR.out.ext hE)
    clear hE
    simp only [zeroP]
    gi_wp2_with fail
    have bq0 := (Box.new w7 50 [.int .i64 0, .int .i64 0, .int .i64 0, .slice none 0 0])
    have eq : Ext w7 (w7.alloc (Obj.cells #[.int .i64 0, .int .i64 0, .int .i64 0, .slice none 0 0] 50)) := ((Keeps.refl NoB w7).alloc _)
    have sq : (w7.alloc (Obj.cells #[.int .i64 0, .int .i64 0, .int .i64 0, .slice none 0 0] 50)).heap.size = w7.heap.size + 1 := by simp
    generalize (w7.alloc (Obj.cells #[.int .i64 0, .int .i64 0, .int .i64 0, .slice none 0 0] 50)) = w8 at bq0 eq sq ⊢
    have Sq := Lib.hid sq
    clear sq
    clear bq0
    replace HN := Lib.hid (HN.out.ext eq)
    replace HR := Lib.hid (HR.out.ext eq)
    replace HE := Lib.hid (HE.out.ext eq)
    replace BR := Lib.hid (BR.out.ext eq)
    clear eq
    refine ⟨trivial, callsIn_wide.2 ((drop_no w8 HN.out 0 0 0).mono ?_)⟩
    rintro e w' ⟨rfl, rfl⟩
    gi_wp2_with fail
    refine ⟨trivial, callsIn_wide.2 ((all_no w8 HN.out).mono ?_)⟩
    rintro e w9 ⟨rfl, -, hE⟩
    replace HN := Lib.hid (HN.out.ext hE)
    replace HR := Lib.hid (HR.out.ext hE)
    replace HE := Lib.hid (HE.out.ext hE)
    replace BR := Lib.hid (BR.out.ext hE)
    clear hE
    have hsn := seq_nil w9 45 (some ⟨w8.heap.size, 0, none⟩)
    gi_wp2_with fail
    refine ⟨trivial, callsIn_wide.2 ((all_no w9 HN.out).mono ?_)⟩
    rintro e w10 ⟨rfl, hs, hE⟩
    have HSQ := Lib.hid hs
    replace HN := Lib.hid (HN.out.ext hE)
    replace HR := Lib.hid (HR.out.ext hE)
    replace HE := Lib.hid (HE.out.ext hE)
    replace BR := Lib.hid (BR.out.ext hE)
    clear hE
    clear hs hsn
    gi_wp2_with fail
    refine wpIn_range rfl (by omega) (gf := 45) (lb := #[.pointer (some ⟨w9.heap.size, 0, none⟩)]) rfl trivial (enters_of Try.func45 (by kernel_rfl) rfl)
      (S := NoB) (iter_net w10 w9.heap.size [] HSQ.out (noB _) (fun k _ => noB _) (by simp) (by simp)) (by rintro x v W0 W ⟨bv, rfl, _⟩; rfl)
      (fun k W => Keeps NoB w10 W) (fun _ _ _ => False) (fun k W h => h) (fun k W W' h hk => h.then hk (fun i hi h => by unfold OneB at h; omega))
      (fun _ _ _ _ h _ => h) (Keeps.refl _ _) (fun k hk => by simp at hk) ?_ (fun _ _ _ _ h _ => h.elim)
    intro w11 hE hm
    have HM := Lib.hid hm
    have h10w : w.heap.size < w10.heap.size := by have h1 := hE.size; have h2 := BR.out.lt; exact h2
    replace HN := Lib.hid (HN.out.ext hE)
    replace HR := Lib.hid (HR.out.ext hE)
    replace HE := Lib.hid (HE.out.ext hE)
    replace BR := Lib.hid (BR.out.ext hE)
    clear hE
    clear hm
    gi_wp2_with fail
    refine ⟨trivial, callsIn_wide.2 ((num_any _ _).mono ?_)⟩
    rintro e w' ⟨rfl, rfl⟩
    gi_wp2_with fail
    refine ⟨trivial, callsIn_wide.2 ((num_any _ _).mono ?_)⟩
    rintro e w' ⟨rfl, rfl⟩
    gi_wp2_with fail
    refine ⟨trivial, callsIn_wide.2 ((num_any _ _).mono ?_)⟩
    rintro e w' ⟨rfl, rfl⟩
    gi_wp2_with fail
    refine ⟨trivial, callsIn_wide.2 ((num_any _ _).mono ?_)⟩
    rintro e w' ⟨rfl, rfl⟩
    gi_wp2_with fail
    refine ⟨trivial, callsIn_wide.2 ((down_no w11 HN.out 0 0 true).mono ?_)⟩
    rintro e w' ⟨rfl, rfl⟩
    gi_wp2_with fail
    refine ⟨trivial, callsIn_wide.2 ((num_any _ _).mono ?_)⟩
    rintro e w' ⟨rfl, rfl⟩
    gi_wp2_with fail
    refine ⟨trivial, callsIn_wide.2 ((isdown_no w11 HN.out 0 0).mono ?_)⟩
    rintro e w' ⟨rfl, rfl⟩
    gi_wp2_with fail
    refine ⟨trivial, callsIn_wide.2 ((len_no w11 HN.out (-1) (-1)).mono ?_)⟩
    rintro e w' ⟨rfl, rfl⟩
    gi_wp2_with fail
    refine ⟨trivial, callsIn_wide.2 ((came_no w11 HN.out).mono ?_)⟩
    rintro e w' ⟨rfl, rfl⟩
    gi_wp2_with fail
    refine ⟨trivial, callsIn_wide.2 ((copy_no w11 HN.out).mono ?_)⟩
    rintro e w' ⟨rfl, rfl⟩
    gi_wp2_with fail
    refine ⟨trivial, callsIn_wide.2 ((same_nono w11 none HN.out (.inl rfl)).mono ?_)⟩
    rintro e w' ⟨rfl, rfl⟩
    rcases HR.out with rfl | ⟨F, M, b, N, rfl, hrx⟩
    · have hb := BR.out
      gi_wp2_with fail
      refine ⟨trivial, ?_⟩
      gi_wp2_with fail
      · rename_i xx bb hh h2
        exact absurd hh (by unfold undef; simp)
      · rename_i xx bb hh h2
        exact absurd hh (by unfold undef; simp)
      refine ⟨trivial, ?_⟩
      gi_wp2_with fail
      clear hb
      refine ⟨trivial, callsIn_wide.2 ((works_any _).mono ?_)⟩
      rintro e w14 ⟨rfl, hE⟩
      have HM14 := Lib.hid (HM.out.keeps hE (noB _))
      replace HE := Lib.hid (HE.out.ext hE)
      replace BR := Lib.hid (BR.out.ext hE)
      have hlt := HM14.out.lt
      clear hE
      obtain ⟨cBR, zBR⟩ := BR.out.reads
      have lBR := BR.out.lt
      gi_wp2_with fail
      clear cBR zBR lBR
      refine leaves_marks [w10.heap.size] _ (by simp) ?_ ?_
      · intro D hD
        obtain rfl : D = w10.heap.size := by simpa using hD
        exact HM14.out.keeps (S := OneB w.heap.size) ((Keeps.refl _ _).setOne _ _) (by unfold OneB; omega)
      · intro w' hk
        have q0 : Box w' w.heap.size 4 [.bool true] := Box.keeps (w := _) (BR.out.set 0 (.bool true)) hk (by simp; omega)
        refine ⟨.bool true, by simp [results, Try.results8, go_sem, q0.reads.1], rfl, ?_⟩
        exact (HE.out.then ((Keeps.refl (OneB w.heap.size) w14).setOne 0 (.bool true)) (fun i hi h => by unfold OneB at h; omega)).then hk (fun i hi h => by simp at h; omega)
    · have HRX := Lib.hid hrx
      clear hrx
      gi_wp2_with fail
      refine ⟨trivial, callsIn_wide.2 ((same_yn w11 b N HRX.out HN.out).mono ?_)⟩
      rintro e w' ⟨rfl, rfl⟩
      gi_wp2_with fail
      refine ⟨trivial, callsIn_wide.2 ((same_ny w11 b N HRX.out HN.out).mono ?_)⟩
      rintro e w' ⟨rfl, rfl⟩
      have hb := BR.out
      gi_wp2_with fail
      clear hb
      refine ⟨trivial, callsIn_wide.2 ((works_any _).mono ?_)⟩
      rintro e w14 ⟨rfl, hE⟩
      have HM14 := Lib.hid (HM.out.keeps hE (noB _))
      replace HE := Lib.hid (HE.out.ext hE)
      replace BR := Lib.hid (BR.out.ext hE)
      have hlt := HM14.out.lt
      clear hE
      obtain ⟨cBR, zBR⟩ := BR.out.reads
      have lBR := BR.out.lt
      gi_wp2_with fail
      clear cBR zBR lBR
      refine leaves_marks [w10.heap.size] _ (by simp) ?_ ?_
      · intro D hD
        obtain rfl : D = w10.heap.size := by simpa using hD
        exact HM14.out.keeps (S := OneB w.heap.size) ((Keeps.refl _ _).setOne _ _) (by unfold OneB; omega)
      · intro w' hk
        have q0 : Box w' w.heap.size 4 [.bool true] := Box.keeps (w := _) (BR.out.set 0 (.bool true)) hk (by simp; omega)
        refine ⟨.bool true, by simp [results, Try.results8, go_sem, q0.reads.1], rfl, ?_⟩
        exact (HE.out.then ((Keeps.refl (OneB w.heap.size) w14).setOne 0 (.bool true)) (fun i hi h => by unfold OneB at h; omega)).then hk (fun i hi h => by simp at h; omega)
  · skip
    have by0 := (Box.new w1 41 [.int .i64 i0, .int .i64 i1, .int .i64 i2, .slice a1 n1 c1, .slice a2 n2 c2])
    have ey : Ext w1 (w1.alloc (Obj.cells #[.int .i64 i0, .int .i64 i1, .int .i64 i2, .slice a1 n1 c1, .slice a2 n2 c2] 41)) := ((Keeps.refl NoB w1).alloc _)
    have sy : (w1.alloc (Obj.cells #[.int .i64 i0, .int .i64 i1, .int .i64 i2, .slice a1 n1 c1, .slice a2 n2 c2] 41)).heap.size = w1.heap.size + 1 := by simp
    generalize (w1.alloc (Obj.cells #[.int .i64 i0, .int .i64 i1, .int .i64 i2, .slice a1 n1 c1, .slice a2 n2 c2] 41)) = w3 at by0 ey sy ⊢
    have Sy := Lib.hid sy
    clear sy
    have HN : Hid (NoNet w3 none) := Lib.hid (.inl rfl)
    replace HR := Lib.hid (HR.out.ext ey)
    replace HE := Lib.hid (HE.out.ext ey)
    replace BR := Lib.hid (BR.out.ext ey)
    clear by0 ey
    refine ⟨trivial, callsIn_wide.2 ((put_no w3 HN.out 0 0).mono ?_)⟩
    rintro e w4 ⟨rfl, hE⟩
    replace HN := Lib.hid (HN.out.ext hE)
    replace HR := Lib.hid (HR.out.ext hE)
    replace HE := Lib.hid (HE.out.ext hE)
    replace BR := Lib.hid (BR.out.ext hE)
    clear hE
    gi_wp2_with fail

    refine ⟨trivial, callsIn_wide.2 ((peek_no w4 HN.out 0 0 0).mono ?_)⟩
    rintro e w5 ⟨rfl, hE⟩
    replace HN := Lib.hid (HN.out.ext hE)
    replace HR := Lib.hid (HR.out.ext hE)
    replace HE := Lib.hid (HE.out.ext hE)
    replace BR := Lib.hid (BR.out.ext hE)
    clear hE
    simp only [zeroP]
    gi_wp2_with fail
    have bq0 := (Box.new w5 50 [.int .i64 0, .int .i64 0, .int .i64 0, .slice none 0 0])
    have eq : Ext w5 (w5.alloc (Obj.cells #[.int .i64 0, .int .i64 0, .int .i64 0, .slice none 0 0] 50)) := ((Keeps.refl NoB w5).alloc _)
    have sq : (w5.alloc (Obj.cells #[.int .i64 0, .int .i64 0, .int .i64 0, .slice none 0 0] 50)).heap.size = w5.heap.size + 1 := by simp
    generalize (w5.alloc (Obj.cells #[.int .i64 0, .int .i64 0, .int .i64 0, .slice none 0 0] 50)) = w6 at bq0 eq sq ⊢
    have Sq := Lib.hid sq
    clear sq
    clear bq0
    replace HN := Lib.hid (HN.out.ext eq)
    replace HR := Lib.hid (HR.out.ext eq)
    replace HE := Lib.hid (HE.out.ext eq)
    replace BR := Lib.hid (BR.out.ext eq)
    clear eq
    refine ⟨trivial, callsIn_wide.2 ((take_no w6 HN.out 0 0 0).mono ?_)⟩
    rintro e w7 ⟨rfl, hE⟩
    replace HN := Lib.hid (HN.out.ext hE)
    replace HR := Lib.hid (HR.out.ext hE)
    replace HE := Lib.hid (HE.out.ext hE)
    replace BR := Lib.hid (BR.out.ext hE)
    clear hE
    simp only [zeroP]
    gi_wp2_with fail
    have bq0 := (Box.new w7 50 [.int .i64 0, .int .i64 0, .int .i64 0, .slice none 0 0])
    have eq : Ext w7 (w7.alloc (Obj.cells #[.int .i64 0, .int .i64 0, .int .i64 0, .slice none 0 0] 50)) := ((Keeps.refl NoB w7).alloc _)
    have sq : (w7.alloc (Obj.cells #[.int .i64 0, .int .i64 0, .int .i64 0, .slice none 0 0] 50)).heap.size = w7.heap.size + 1 := by simp
    generalize (w7.alloc (Obj.cells #[.int .i64 0, .int .i64 0, .int .i64 0, .slice none 0 0] 50)) = w8 at bq0 eq sq ⊢
    have Sq := Lib.hid sq
    clear sq
    clear bq0
    replace HN := Lib.hid (HN.out.ext eq)
    replace HR := Lib.hid (HR.out.ext eq)
    replace HE := Lib.hid (HE.out.ext eq)
    replace BR := Lib.hid (BR.out.ext eq)
    clear eq
    refine ⟨trivial, callsIn_wide.2 ((drop_no w8 HN.out 0 0 0).mono ?_)⟩
    rintro e w' ⟨rfl, rfl⟩
    gi_wp2_with fail
    refine ⟨trivial, callsIn_wide.2 ((all_no w8 HN.out).mono ?_)⟩
    rintro e w9 ⟨rfl, -, hE⟩
    replace HN := Lib.hid (HN.out.ext hE)
    replace HR := Lib.hid (HR.out.ext hE)
    replace HE := Lib.hid (HE.out.ext hE)
    replace BR := Lib.hid (BR.out.ext hE)
    clear hE
    have hsn := seq_nil w9 45 (some ⟨w8.heap.size, 0, none⟩)
    gi_wp2_with fail
    refine ⟨trivial, callsIn_wide.2 ((all_no w9 HN.out).mono ?_)⟩
    rintro e w10 ⟨rfl, hs, hE⟩
    have HSQ := Lib.hid hs
    replace HN := Lib.hid (HN.out.ext hE)
    replace HR := Lib.hid (HR.out.ext hE)
    replace HE := Lib.hid (HE.out.ext hE)
    replace BR := Lib.hid (BR.out.ext hE)
    clear hE
    clear hs hsn
    gi_wp2_with fail
    refine wpIn_range rfl (by omega) (gf := 45) (lb := #[.pointer (some ⟨w9.heap.size, 0, none⟩)]) rfl trivial (enters_of Try.func45 (by kernel_rfl) rfl)
      (S := NoB) (iter_net w10 w9.heap.size [] HSQ.out (noB _) (fun k _ => noB _) (by simp) (by simp)) (by rintro x v W0 W ⟨bv, rfl, _⟩; rfl)
      (fun k W => Keeps NoB w10 W) (fun _ _ _ => False) (fun k W h => h) (fun k W W' h hk => h.then hk (fun i hi h => by unfold OneB at h; omega))
      (fun _ _ _ _ h _ => h) (Keeps.refl _ _) (fun k hk => by simp at hk) ?_ (fun _ _ _ _ h _ => h.elim)
    intro w11 hE hm
    have HM := Lib.hid hm
    have h10w : w.heap.size < w10.heap.size := by have h1 := hE.size; have h2 := BR.out.lt; exact h2
    replace HN := Lib.hid (HN.out.ext hE)
    replace HR := Lib.hid (HR.out.ext hE)
    replace HE := Lib.hid (HE.out.ext hE)
    replace BR := Lib.hid (BR.out.ext hE)
    clear hE
    clear hm
    gi_wp2_with fail
    refine ⟨trivial, callsIn_wide.2 ((num_any _ _).mono ?_)⟩
    rintro e w' ⟨rfl, rfl⟩
    gi_wp2_with fail
    refine ⟨trivial, callsIn_wide.2 ((num_any _ _).mono ?_)⟩
    rintro e w' ⟨rfl, rfl⟩
    gi_wp2_with fail
    refine ⟨trivial, callsIn_wide.2 ((num_any _ _).mono ?_)⟩
    rintro e w' ⟨rfl, rfl⟩
    gi_wp2_with fail
    refine ⟨trivial, callsIn_wide.2 ((num_any _ _).mono ?_)⟩
    rintro e w' ⟨rfl, rfl⟩
    gi_wp2_with fail
    refine ⟨trivial, callsIn_wide.2 ((down_no w11 HN.out 0 0 true).mono ?_)⟩
    rintro e w' ⟨rfl, rfl⟩
    gi_wp2_with fail
    refine ⟨trivial, callsIn_wide.2 ((num_any _ _).mono ?_)⟩
    rintro e w' ⟨rfl, rfl⟩
    gi_wp2_with fail
    refine ⟨trivial, callsIn_wide.2 ((isdown_no w11 HN.out 0 0).mono ?_)⟩
    rintro e w' ⟨rfl, rfl⟩
    gi_wp2_with fail
    refine ⟨trivial, callsIn_wide.2 ((len_no w11 HN.out (-1) (-1)).mono ?_)⟩
    rintro e w' ⟨rfl, rfl⟩
    gi_wp2_with fail
    refine ⟨trivial, callsIn_wide.2 ((came_no w11 HN.out).mono ?_)⟩
    rintro e w' ⟨rfl, rfl⟩
    gi_wp2_with fail
    refine ⟨trivial, callsIn_wide.2 ((copy_no w11 HN.out).mono ?_)⟩
    rintro e w' ⟨rfl, rfl⟩
    gi_wp2_with fail
    refine ⟨trivial, callsIn_wide.2 ((same_nono w11 none HN.out (.inl rfl)).mono ?_)⟩
    rintro e w' ⟨rfl, rfl⟩
    rcases HR.out with rfl | ⟨F, M, b, N, rfl, hrx⟩
    · have hb := BR.out
      gi_wp2_with fail
      refine ⟨trivial, ?_⟩
      gi_wp2_with fail
      · rename_i xx bb hh h2
        exact absurd hh (by unfold undef; simp)
      · rename_i xx bb hh h2
        exact absurd hh (by unfold undef; simp)
      refine ⟨trivial, ?_⟩
      gi_wp2_with fail
      clear hb
      refine ⟨trivial, callsIn_wide.2 ((works_any _).mono ?_)⟩
      rintro e w14 ⟨rfl, hE⟩
      have HM14 := Lib.hid (HM.out.keeps hE (noB _))
      replace HE := Lib.hid (HE.out.ext hE)
      replace BR := Lib.hid (BR.out.ext hE)
      have hlt := HM14.out.lt
      clear hE
      obtain ⟨cBR, zBR⟩ := BR.out.reads
      have lBR := BR.out.lt
      gi_wp2_with fail
      clear cBR zBR lBR
      refine leaves_marks [w10.heap.size] _ (by simp) ?_ ?_
      · intro D hD
        obtain rfl : D = w10.heap.size := by simpa using hD
        exact HM14.out.keeps (S := OneB w.heap.size) ((Keeps.refl _ _).setOne _ _) (by unfold OneB; omega)
      · intro w' hk
        have q0 : Box w' w.heap.size 4 [.bool true] := Box.keeps (w := _) (BR.out.set 0 (.bool true)) hk (by simp; omega)
        refine ⟨.bool true, by simp [results, Try.results8, go_sem, q0.reads.1], rfl, ?_⟩
        exact (HE.out.then ((Keeps.refl (OneB w.heap.size) w14).setOne 0 (.bool true)) (fun i hi h => by unfold OneB at h; omega)).then hk (fun i hi h => by simp at h; omega)
    · have HRX := Lib.hid hrx
      clear hrx
      gi_wp2_with fail
      refine ⟨trivial, callsIn_wide.2 ((same_yn w11 b N HRX.out HN.out).mono ?_)⟩
      rintro e w' ⟨rfl, rfl⟩
      gi_wp2_with fail
      refine ⟨trivial, callsIn_wide.2 ((same_ny w11 b N HRX.out HN.out).mono ?_)⟩
      rintro e w' ⟨rfl, rfl⟩
      have hb := BR.out
      gi_wp2_with fail
      clear hb
      refine ⟨trivial, callsIn_wide.2 ((works_any _).mono ?_)⟩
      rintro e w14 ⟨rfl, hE⟩
      have HM14 := Lib.hid (HM.out.keeps hE (noB _))
      replace HE := Lib.hid (HE.out.ext hE)
      replace BR := Lib.hid (BR.out.ext hE)
      have hlt := HM14.out.lt
      clear hE
      obtain ⟨cBR, zBR⟩ := BR.out.reads
      have lBR := BR.out.lt
      gi_wp2_with fail
      clear cBR zBR lBR
      refine leaves_marks [w10.heap.size] _ (by simp) ?_ ?_
      · intro D hD
        obtain rfl : D = w10.heap.size := by simpa using hD
        exact HM14.out.keeps (S := OneB w.heap.size) ((Keeps.refl _ _).setOne _ _) (by unfold OneB; omega)
      · intro w' hk
        have q0 : Box w' w.heap.size 4 [.bool true] := Box.keeps (w := _) (BR.out.set 0 (.bool true)) hk (by simp; omega)
        refine ⟨.bool true, by simp [results, Try.results8, go_sem, q0.reads.1], rfl, ?_⟩
        exact (HE.out.then ((Keeps.refl (OneB w.heap.size) w14).setOne 0 (.bool true)) (fun i hi h => by unfold OneB at h; omega)).then hk (fun i hi h => by simp at h; omega)
theorem plays_all (en m : Int) (v : Value) (l : List Ac) (w : World) (h : Acts w (Old w) v l) (hok : ∀ x ∈ l, x.ok) (hn : l.length ≤ 9223372036854775807) (hb : ∀ x ∈ l, x.bytes.length ≤ 9223372036854775807) :
    Calls Try.prog 8 #[.int .i64 en, .int .i64 m, v] w fun e w' => e = .returned (.bool true) ∧ Ext w w' := by
  cases hf : fewOf l 50 with
  | false => exact plays_few w en m v l h hn hb hf
  | true => exact plays_in w en m v l h hn hb hf hok fun k hk => hk
end Go.Proofs.Ytdiogipdcpiffaa
