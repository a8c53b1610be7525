/- The ring's 'works', and the statement RingBounds: it returns true, and of what was there nothing turns. -/
import Derived.Test.YtocjnieehogcbaaRingL
set_option linter.unusedVariables false
set_option maxHeartbeats 400000
namespace Go.Proofs.Ytocjnieehogcbaa
open Go.RowKit

theorem works_any (w : World) :
    Calls Try.prog 8 #[] w fun e w' => e = .returned (.bool true) ∧ Ext w w' := by
  go_enter Try.func8, Try.ntmps8
  go_wp2_with fail
  refine (new_x NoB w 2 (by omega) (by omega) (fun _ h => h.elim) 2 rfl).mono ?_
  rintro e w1 ⟨b, rfl, hr, hE, hb⟩
  have HR1 := Lib.hid hr
  have HE1 := Lib.hid hE
  have HB := Lib.hid hb
  clear hr hE hb
  go_wp2_with fail
  refine (beside_any 7 [97] _).mono ?_
  rintro e V1 ⟨v, rfl, hv, hE⟩
  have hB := HR1.out.lt
  have HRv := Lib.hid (HR1.out.ext hE)
  have HEv := Lib.hid (HE1.out.ext hE)
  have HV := Lib.hid hv
  obtain ⟨v, rfl, -⟩ := hv
  clear hE HR1 HE1
  go_wp2_with fail
  refine (put_x (N := NoB) _ b _ ⟨2, 0, [⟨true, 7, [97]⟩]⟩ ⟨true, 7, [97]⟩ _ 0 0 0 0 (by kernel_rfl) rfl rfl HRv.out HV.out (by omega) (fun _ h => h.elim) (by decide) (by decide)).mono ?_
  rintro e w2 ⟨rfl, hr, hk⟩
  have HR2 := Lib.hid hr
  have HE2 : Hid (Ext w w2) := HEv.out.then hk (fun i hi h => by have := HB.out; unfold OneB at h; omega)
  clear hr hk HRv HV HEv hB
  go_wp2_with fail
  refine (main_any [120] _).mono ?_
  rintro e V2 ⟨v, rfl, hv, hE⟩
  have hB := HR2.out.lt
  have HRv := Lib.hid (HR2.out.ext hE)
  have HEv := Lib.hid (HE2.out.ext hE)
  have HV := Lib.hid hv
  obtain ⟨v, rfl, -⟩ := hv
  clear hE HR2 HE2
  go_wp2_with fail
  refine (put_x (N := NoB) _ b _ ⟨2, 0, [⟨true, 7, [97]⟩, ⟨false, 0, [120]⟩]⟩ ⟨false, 0, [120]⟩ _ 0 0 0 0 (by kernel_rfl) rfl rfl HRv.out HV.out (by omega) (fun _ h => h.elim) (by decide) (by decide)).mono ?_
  rintro e w3 ⟨rfl, hr, hk⟩
  have HR3 := Lib.hid hr
  have HE3 : Hid (Ext w w3) := HEv.out.then hk (fun i hi h => by have := HB.out; unfold OneB at h; omega)
  clear hr hk HRv HV HEv hB
  go_wp2_with fail
  refine (beside_any 7 [98] _).mono ?_
  rintro e V3 ⟨v, rfl, hv, hE⟩
  have hB := HR3.out.lt
  have HRv := Lib.hid (HR3.out.ext hE)
  have HEv := Lib.hid (HE3.out.ext hE)
  have HV := Lib.hid hv
  obtain ⟨v, rfl, -⟩ := hv
  clear hE HR3 HE3
  go_wp2_with fail
  refine (put_x (N := NoB) _ b _ ⟨2, 1, [⟨true, 7, [98]⟩, ⟨false, 0, [120]⟩]⟩ ⟨true, 7, [98]⟩ _ 1 0 1 0 (by kernel_rfl) rfl rfl HRv.out HV.out (by omega) (fun _ h => h.elim) (by decide) (by decide)).mono ?_
  rintro e w4 ⟨rfl, hr, hk⟩
  have HR4 := Lib.hid hr
  have HE4 : Hid (Ext w w4) := HEv.out.then hk (fun i hi h => by have := HB.out; unfold OneB at h; omega)
  clear hr hk HRv HV HEv hB
  go_wp2_with fail
  refine (main_any [121] _).mono ?_
  rintro e V4 ⟨v, rfl, hv, hE⟩
  have hB := HR4.out.lt
  have HRv := Lib.hid (HR4.out.ext hE)
  have HEv := Lib.hid (HE4.out.ext hE)
  have HV := Lib.hid hv
  obtain ⟨v, rfl, -⟩ := hv
  clear hE HR4 HE4
  go_wp2_with fail
  refine (put_x (N := NoB) _ b _ ⟨2, 2, [⟨false, 0, [120]⟩, ⟨false, 0, [121]⟩]⟩ ⟨false, 0, [121]⟩ _ 1 0 1 0 (by kernel_rfl) rfl rfl HRv.out HV.out (by omega) (fun _ h => h.elim) (by decide) (by decide)).mono ?_
  rintro e w5 ⟨rfl, hr, hk⟩
  have HR5 := Lib.hid hr
  have HE5 : Hid (Ext w w5) := HEv.out.then hk (fun i hi h => by have := HB.out; unfold OneB at h; omega)
  clear hr hk HRv HV HEv hB
  go_wp2_with fail
  refine (main_any [122] _).mono ?_
  rintro e V5 ⟨v, rfl, hv, hE⟩
  have hB := HR5.out.lt
  have HRv := Lib.hid (HR5.out.ext hE)
  have HEv := Lib.hid (HE5.out.ext hE)
  have HV := Lib.hid hv
  obtain ⟨v, rfl, -⟩ := hv
  clear hE HR5 HE5
  go_wp2_with fail
  refine (put_x (N := NoB) _ b _ ⟨2, 2, [⟨false, 0, [120]⟩, ⟨false, 0, [121]⟩]⟩ ⟨false, 0, [122]⟩ _ 0 350 0 350 (by kernel_rfl) rfl rfl HRv.out HV.out (by omega) (fun _ h => h.elim) (by decide) (by decide)).mono ?_
  rintro e w6 ⟨rfl, hr, hk⟩
  have HR6 := Lib.hid hr
  have HE6 : Hid (Ext w w6) := HEv.out.then hk (fun i hi h => by have := HB.out; unfold OneB at h; omega)
  clear hr hk HRv HV HEv hB
  go_wp2_with fail
  refine (beside_any 1 [99] _).mono ?_
  rintro e V6 ⟨v, rfl, hv, hE⟩
  have hB := HR6.out.lt
  have HRv := Lib.hid (HR6.out.ext hE)
  have HEv := Lib.hid (HE6.out.ext hE)
  have HV := Lib.hid hv
  obtain ⟨v, rfl, -⟩ := hv
  clear hE HR6 HE6
  go_wp2_with fail
  refine (put_x (N := NoB) _ b _ ⟨2, 3, [⟨false, 0, [120]⟩, ⟨false, 0, [121]⟩]⟩ ⟨true, 1, [99]⟩ _ 1 0 1 0 (by kernel_rfl) rfl rfl HRv.out HV.out (by omega) (fun _ h => h.elim) (by decide) (by decide)).mono ?_
  rintro e w7 ⟨rfl, hr, hk⟩
  have HR7 := Lib.hid hr
  have HE7 : Hid (Ext w w7) := HEv.out.then hk (fun i hi h => by have := HB.out; unfold OneB at h; omega)
  clear hr hk HRv HV HEv hB
  go_wp2_with fail
  refine (take_x w7 b 2 3 ⟨false, 0, [120]⟩ [⟨false, 0, [121]⟩] HR7.out).mono ?_
  rintro e w8 ⟨v1, rfl, ⟨bv1, rfl, hb1⟩, hr, hk⟩
  obtain ⟨a1, c1, rfl⟩ : ∃ a c, bv1 = .slice a 1 c := hb1.len
  have HR8 := Lib.hid hr
  have hb8 := hr.lt
  have HE8 : Hid (Ext w w8) := HE7.out.then hk (fun i hi h => by have := HB.out; unfold OneB at h; omega)
  have HX8 := Lib.hid (hb1.mono (A' := fun k => k ≠ b ∧ k < w8.heap.size) fun k hk' => ⟨hk'.2.1, Nat.lt_of_lt_of_le hk'.1 hk.size⟩)
  clear hr hk HR7 HE7 hb1
  go_wp2_with fail
  have bx0 := (Box.new w8 31 [.bool false, .int .i64 0, .slice a1 1 c1])
  have ex : Ext w8 (w8.alloc (Obj.cells #[.bool false, .int .i64 0, .slice a1 1 c1] 31)) := ((Keeps.refl NoB w8).alloc _)
  have sx : (w8.alloc (Obj.cells #[.bool false, .int .i64 0, .slice a1 1 c1] 31)).heap.size = w8.heap.size + 1 := by simp
  generalize (w8.alloc (Obj.cells #[.bool false, .int .i64 0, .slice a1 1 c1] 31)) = w9 at bx0 ex sx ⊢
  have Sx := Lib.hid sx
  clear sx
  have HR9 := Lib.hid (HR8.out.ext ex)
  have HE9 := Lib.hid (HE8.out.ext ex)
  have HX9 := Lib.hid (HX8.out.ext ex)
  have B9 := Lib.hid bx0
  have hbn : w8.heap.size ≠ b := by omega
  clear ex bx0
  refine (beside_any 1 [99] _).mono ?_
  rintro e V9 ⟨v, rfl, hv, hE⟩
  have hB := HR9.out.lt
  have HRv := Lib.hid (HR9.out.ext hE)
  have HEv := Lib.hid (HE9.out.ext hE)
  have HXv := Lib.hid (HX9.out.ext hE)
  have Bv := Lib.hid (B9.out.ext hE)
  have HV := Lib.hid hv
  obtain ⟨v, rfl, -⟩ := hv
  clear hE HR9 HE9 HX9 B9
  go_wp2_with fail
  refine (put_x (N := NoB) _ b _ ⟨2, 3, [⟨false, 0, [121]⟩, ⟨true, 1, [99]⟩]⟩ ⟨true, 1, [99]⟩ _ 0 0 0 0 (by kernel_rfl) rfl rfl HRv.out HV.out (by omega) (fun _ h => h.elim) (by decide) (by decide)).mono ?_
  rintro e w10 ⟨rfl, hr, hk⟩
  have HR10 := Lib.hid hr
  have HE10 : Hid (Ext w w10) := HEv.out.then hk (fun i hi h => by have := HB.out; unfold OneB at h; omega)
  have HX10 := Lib.hid (HXv.out.keeps hk (fun k h1 h2 => h1.1 h2))
  have B10 := Lib.hid (Bv.out.keeps hk hbn)
  clear hr hk HRv HV HEv HXv Bv hB
  go_wp2_with fail
  refine (take_x w10 b 2 3 ⟨false, 0, [121]⟩ [⟨true, 1, [99]⟩] HR10.out).mono ?_
  rintro e w11 ⟨v2, rfl, ⟨bv2, rfl, hb2⟩, hr, hk⟩
  obtain ⟨a2, c2, rfl⟩ : ∃ a c, bv2 = .slice a 1 c := hb2.len
  have HE11 : Hid (Ext w w11) := HE10.out.then hk (fun i hi h => by have := HB.out; unfold OneB at h; omega)
  have HX11 := Lib.hid (HX10.out.keeps hk (fun k h1 h2 => h1.1 h2))
  have HY11 := Lib.hid hb2
  have B11 := Lib.hid (B10.out.keeps hk hbn)
  clear hr hk HR10 HE10 HX10 B10 hb2
  go_wp2_with fail
  have by0 := (Box.new w11 31 [.bool false, .int .i64 0, .slice a2 1 c2])
  have ey : Ext w11 (w11.alloc (Obj.cells #[.bool false, .int .i64 0, .slice a2 1 c2] 31)) := ((Keeps.refl NoB w11).alloc _)
  have sy : (w11.alloc (Obj.cells #[.bool false, .int .i64 0, .slice a2 1 c2] 31)).heap.size = w11.heap.size + 1 := by simp
  generalize (w11.alloc (Obj.cells #[.bool false, .int .i64 0, .slice a2 1 c2] 31)) = w12 at by0 ey sy ⊢
  have Sy := Lib.hid sy
  clear sy
  have hx := (HX11.out.ext ey).str
  have hy := (HY11.out.ext ey).str
  have B12 := B11.out.ext ey
  have s1 : (bs [120]).toList = [120] := by kernel_rfl
  have s2 : (bs [121]).toList = [121] := by kernel_rfl
  obtain ⟨q1, q2⟩ := B12.reads
  obtain ⟨p1, p2⟩ := by0.reads
  have HE12 := Lib.hid (HE11.out.ext ey)
  have l1 := B12.lt
  have l2 := by0.lt
  clear ey B12 by0
  refine (num_any _ _).mono ?_
  rintro e w' ⟨rfl, rfl⟩
  go_wp2_with fail
  refine (num_any _ _).mono ?_
  rintro e w' ⟨rfl, rfl⟩
  go_wp2_with fail
  refine (num_any _ _).mono ?_
  rintro e w' ⟨rfl, rfl⟩
  go_wp2_with fail
  refine (num_any _ _).mono ?_
  rintro e w' ⟨rfl, rfl⟩
  go_wp2_with fail
  refine (num_any _ _).mono ?_
  rintro e w' ⟨rfl, rfl⟩
  go_wp2_with fail
  refine (num_any _ _).mono ?_
  rintro e w' ⟨rfl, rfl⟩
  go_wp2_with fail
  refine (num_any _ _).mono ?_
  rintro e w' ⟨rfl, rfl⟩
  go_wp2_with fail
  refine (num_any _ _).mono ?_
  rintro e w' ⟨rfl, rfl⟩
  go_wp2_with fail
  go_ret
  exact ⟨rfl, HE12.out⟩
end Go.Proofs.Ytocjnieehogcbaa
