/- The net's 'works': it returns true, and of what was there nothing turns. -/
import Derived.Test.YtdiogipdcpiffaaNetK
import Derived.Lib.SmallJoins
set_option linter.unusedVariables false
set_option maxHeartbeats 400000
set_option maxRecDepth 10000
namespace Go.Proofs.Ytdiogipdcpiffaa
open Go.RowKit

set_option maxRecDepth 100000 in
set_option maxHeartbeats 4000000 in
theorem works_any (w : World) :
    Calls Try.prog 9 #[] w fun e w' => e = .returned (.bool true) ∧ Ext w w' := by
  go_enter Try.func9, Try.ntmps9
  go_wp2_with fail
  refine (new_any w 3 10 3 10 rfl rfl (by decide) (by decide) (by decide) (by decide)).mono ?_
  rintro e w1 ⟨b, rfl, hn, hE⟩
  obtain ⟨F, hF⟩ : ∃ F, Fr w w1 = F := ⟨_, rfl⟩
  have HR : Hid (Rig w w1 F F b ⟨3, 10, 0, [], []⟩) := Lib.hid (by rw [← hF]; exact ⟨hn, fun k hk => hk.1, hE⟩)
  clear hn hE hF
  have hcv := fun (w : World) (C : Array Value) (n c g : Nat) (hg : g = w.heap.size) => Go.Joins.run_convert_bytes_const_at (P := Try.prog) w 30 5 C n c g hg Try.underlying30 Try.underlying5
  go_wp2_with fail
  have hv : Bytes (w1.alloc (.cells #[.int .u8 97] 5 (1, 2))) (OneB w1.heap.size) (.slice (some ⟨w1.heap.size, 0, none⟩) 1 1) [97] := (bytes_const w1 97 1 2).1
  have ex : Ext w1 (w1.alloc (.cells #[.int .u8 97] 5 (1, 2))) := (Keeps.refl _ _).alloc _
  generalize w1.alloc (.cells #[.int .u8 97] 5 (1, 2)) = Vw1 at hv ex ⊢
  have HV := Lib.hid hv
  replace HR := Lib.hid (HR.out.ext ex)
  clear ex hv
  refine (put_any Vw1 b ⟨3, 10, 0, [], []⟩ (0) (1) _ [97] HR.out.net (by unfold I64; omega) (by unfold I64; omega) HV.out (by decide) (by decide) ⟨3, 10, 1, [⟨0, 0, 1, [97]⟩], []⟩ 0 0 0 0 (by kernel_rfl) rfl rfl).mono ?_
  rintro e w2 ⟨F', M', rfl, hn, hs⟩
  replace HR := Lib.hid (HR.out.step hn hs)
  clear hn hs HV
  go_wp2_with fail
  have hv : Bytes (w2.alloc (.cells #[.int .u8 98] 5 (1, 2))) (OneB w2.heap.size) (.slice (some ⟨w2.heap.size, 0, none⟩) 1 1) [98] := (bytes_const w2 98 1 2).1
  have ex : Ext w2 (w2.alloc (.cells #[.int .u8 98] 5 (1, 2))) := (Keeps.refl _ _).alloc _
  generalize w2.alloc (.cells #[.int .u8 98] 5 (1, 2)) = Vw2 at hv ex ⊢
  have HV := Lib.hid hv
  replace HR := Lib.hid (HR.out.ext ex)
  clear ex hv
  refine (put_any Vw2 b ⟨3, 10, 1, [⟨0, 0, 1, [97]⟩], []⟩ (1) (2) _ [98] HR.out.net (by unfold I64; omega) (by unfold I64; omega) HV.out (by decide) (by decide) ⟨3, 10, 2, [⟨0, 0, 1, [97]⟩, ⟨1, 1, 2, [98]⟩], []⟩ 1 0 0 1 (by kernel_rfl) rfl rfl).mono ?_
  rintro e w3 ⟨F', M', rfl, hn, hs⟩
  replace HR := Lib.hid (HR.out.step hn hs)
  clear hn hs HV
  go_wp2_with fail
  have hv : Bytes (w3.alloc (.cells #[.int .u8 99] 5 (1, 2))) (OneB w3.heap.size) (.slice (some ⟨w3.heap.size, 0, none⟩) 1 1) [99] := (bytes_const w3 99 1 2).1
  have ex : Ext w3 (w3.alloc (.cells #[.int .u8 99] 5 (1, 2))) := (Keeps.refl _ _).alloc _
  generalize w3.alloc (.cells #[.int .u8 99] 5 (1, 2)) = Vw3 at hv ex ⊢
  have HV := Lib.hid hv
  replace HR := Lib.hid (HR.out.ext ex)
  clear ex hv
  refine (put_any Vw3 b ⟨3, 10, 2, [⟨0, 0, 1, [97]⟩, ⟨1, 1, 2, [98]⟩], []⟩ (0) (1) _ [99] HR.out.net (by unfold I64; omega) (by unfold I64; omega) HV.out (by decide) (by decide) ⟨3, 10, 3, [⟨0, 0, 1, [97]⟩, ⟨1, 1, 2, [98]⟩, ⟨2, 0, 1, [99]⟩], []⟩ 2 0 0 2 (by kernel_rfl) rfl rfl).mono ?_
  rintro e w4 ⟨F', M', rfl, hn, hs⟩
  replace HR := Lib.hid (HR.out.step hn hs)
  clear hn hs HV
  go_wp2_with fail
  refine (take_any w4 b ⟨3, 10, 3, [⟨0, 0, 1, [97]⟩, ⟨1, 1, 2, [98]⟩, ⟨2, 0, 1, [99]⟩], []⟩ (0) (1) (1) HR.out.net (by unfold I64; omega) ⟨3, 10, 3, [⟨0, 0, 1, [97]⟩, ⟨1, 1, 2, [98]⟩], []⟩ ⟨2, 0, 1, [99]⟩ 0 0 (by kernel_rfl) rfl).mono ?_
  rintro e w5 ⟨F', M', bvx, rfl, hb, hn, hs⟩
  have hb2 := hb.mono (A' := Out w5 M') (fun k hk => ⟨hk.1.2, hk.2⟩)
  obtain ⟨ax, cx, rfl⟩ := hb.len
  replace HR := Lib.hid (HR.out.step hn hs)
  clear hb hn hs
  skip
  go_wp2_with fail
  have bx0 := (Box.new w5 50 [.int .i64 2, .int .i64 0, .int .i64 1, .slice ax 1 cx])
  have ex : Ext w5 (w5.alloc (Obj.cells #[.int .i64 2, .int .i64 0, .int .i64 1, .slice ax 1 cx] 50)) := ((Keeps.refl NoB w5).alloc _)
  have sx : (w5.alloc (Obj.cells #[.int .i64 2, .int .i64 0, .int .i64 1, .slice ax 1 cx] 50)).heap.size = w5.heap.size + 1 := by simp
  generalize (w5.alloc (Obj.cells #[.int .i64 2, .int .i64 0, .int .i64 1, .slice ax 1 cx] 50)) = w6 at bx0 ex sx ⊢
  have Sx := Lib.hid sx
  clear sx
  have bxx := HR.out.nbox (Nat.le_refl _) bx0
  have hbx : OB w6 M' _ _ := OB.ext hb2 ex
  replace HR := Lib.hid (HR.out.ext ex)
  clear hb2 ex bx0
  have HX := Lib.hid hbx
  have HBX := Lib.hid bxx
  clear hbx bxx
  go_wp2_with fail
  refine (take_any w6 b ⟨3, 10, 3, [⟨0, 0, 1, [97]⟩, ⟨1, 1, 2, [98]⟩], []⟩ (-1) (-1) (1) HR.out.net (by unfold I64; omega) ⟨3, 10, 3, [⟨0, 0, 1, [97]⟩], []⟩ ⟨1, 1, 2, [98]⟩ 0 0 (by kernel_rfl) rfl).mono ?_
  rintro e w7 ⟨F', M', bvy, rfl, hb, hn, hs⟩
  have hb2 := hb.mono (A' := Out w7 M') (fun k hk => ⟨hk.1.2, hk.2⟩)
  obtain ⟨ay, cy, rfl⟩ := hb.len
  replace HX := Lib.hid (HX.out.step hs HR.out.net.FM)
  replace HBX := Lib.hid (HBX.out.step hs HR.out.net.FM)
  replace HR := Lib.hid (HR.out.step hn hs)
  clear hb hn hs
  skip
  go_wp2_with fail
  have by0 := (Box.new w7 50 [.int .i64 1, .int .i64 1, .int .i64 2, .slice ay 1 cy])
  have ey : Ext w7 (w7.alloc (Obj.cells #[.int .i64 1, .int .i64 1, .int .i64 2, .slice ay 1 cy] 50)) := ((Keeps.refl NoB w7).alloc _)
  have sy : (w7.alloc (Obj.cells #[.int .i64 1, .int .i64 1, .int .i64 2, .slice ay 1 cy] 50)).heap.size = w7.heap.size + 1 := by simp
  generalize (w7.alloc (Obj.cells #[.int .i64 1, .int .i64 1, .int .i64 2, .slice ay 1 cy] 50)) = w8 at by0 ey sy ⊢
  have Sy := Lib.hid sy
  clear sy
  have bxy := HR.out.nbox (Nat.le_refl _) by0
  have hby : OB w8 M' _ _ := OB.ext hb2 ey
  replace HR := Lib.hid (HR.out.ext ey)
  replace HX := Lib.hid (HX.out.ext ey)
  replace HBX := Lib.hid (HBX.out.ext ey)
  clear hb2 ey by0
  have HY := Lib.hid hby
  have HBY := Lib.hid bxy
  clear hby bxy
  go_wp2_with fail
  refine (down_any w8 b ⟨3, 10, 3, [⟨0, 0, 1, [97]⟩], []⟩ 0 1 true HR.out.net (by unfold I64; omega) (by unfold I64; omega) ⟨3, 10, 3, [⟨0, 0, 1, [97]⟩], [(0, 1)]⟩ 0 0 (by kernel_rfl) rfl).mono ?_
  rintro e w9 ⟨rfl, hn, hs⟩
  replace HX := Lib.hid (HX.out.step hs HR.out.net.FM)
  replace HBX := Lib.hid (HBX.out.step hs HR.out.net.FM)
  replace HY := Lib.hid (HY.out.step hs HR.out.net.FM)
  replace HBY := Lib.hid (HBY.out.step hs HR.out.net.FM)
  replace HR := Lib.hid (HR.out.step hn hs)
  clear hn hs
  go_wp2_with fail
  refine (take_any w9 b ⟨3, 10, 3, [⟨0, 0, 1, [97]⟩], [(0, 1)]⟩ (0) (1) (0) HR.out.net (by unfold I64; omega) ⟨3, 10, 3, [⟨0, 0, 1, [97]⟩], [(0, 1)]⟩ ⟨0, 0, 0, []⟩ 210 210 (by kernel_rfl) rfl).mono ?_
  rintro e w10 ⟨F', M', bvz, rfl, hb, hn, hs⟩
  have hb2 := hb.mono (A' := Out w10 M') (fun k hk => ⟨hk.1.2, hk.2⟩)
  obtain ⟨az, cz, rfl⟩ := hb.len
  replace HX := Lib.hid (HX.out.step hs HR.out.net.FM)
  replace HBX := Lib.hid (HBX.out.step hs HR.out.net.FM)
  replace HY := Lib.hid (HY.out.step hs HR.out.net.FM)
  replace HBY := Lib.hid (HBY.out.step hs HR.out.net.FM)
  replace HR := Lib.hid (HR.out.step hn hs)
  clear hb hn hs
  skip
  go_wp2_with fail
  have bz0 := (Box.new w10 50 [.int .i64 0, .int .i64 0, .int .i64 0, .slice az 0 cz])
  have ez : Ext w10 (w10.alloc (Obj.cells #[.int .i64 0, .int .i64 0, .int .i64 0, .slice az 0 cz] 50)) := ((Keeps.refl NoB w10).alloc _)
  have sz : (w10.alloc (Obj.cells #[.int .i64 0, .int .i64 0, .int .i64 0, .slice az 0 cz] 50)).heap.size = w10.heap.size + 1 := by simp
  generalize (w10.alloc (Obj.cells #[.int .i64 0, .int .i64 0, .int .i64 0, .slice az 0 cz] 50)) = w11 at bz0 ez sz ⊢
  have Sz := Lib.hid sz
  clear sz
  have bxz := HR.out.nbox (Nat.le_refl _) bz0
  have hbz : OB w11 M' _ _ := OB.ext hb2 ez
  replace HR := Lib.hid (HR.out.ext ez)
  replace HX := Lib.hid (HX.out.ext ez)
  replace HBX := Lib.hid (HBX.out.ext ez)
  replace HY := Lib.hid (HY.out.ext ez)
  replace HBY := Lib.hid (HBY.out.ext ez)
  clear hb2 ez bz0
  clear hbz bxz
  rw [← Sz.out]
  have hv : Bytes (w11.alloc (.cells #[.int .u8 100] 5 (1, 2))) (OneB w11.heap.size) (.slice (some ⟨w11.heap.size, 0, none⟩) 1 1) [100] := (bytes_const w11 100 1 2).1
  have ex : Ext w11 (w11.alloc (.cells #[.int .u8 100] 5 (1, 2))) := (Keeps.refl _ _).alloc _
  generalize w11.alloc (.cells #[.int .u8 100] 5 (1, 2)) = Vw11 at hv ex ⊢
  have HV := Lib.hid hv
  replace HR := Lib.hid (HR.out.ext ex)
  replace HX := Lib.hid (HX.out.ext ex)
  replace HBX := Lib.hid (HBX.out.ext ex)
  replace HY := Lib.hid (HY.out.ext ex)
  replace HBY := Lib.hid (HBY.out.ext ex)
  clear ex hv
  refine (put_any Vw11 b ⟨3, 10, 3, [⟨0, 0, 1, [97]⟩], [(0, 1)]⟩ (0) (1) _ [100] HR.out.net (by unfold I64; omega) (by unfold I64; omega) HV.out (by decide) (by decide) ⟨3, 10, 3, [⟨0, 0, 1, [97]⟩], [(0, 1)]⟩ 0 210 210 0 (by kernel_rfl) rfl rfl).mono ?_
  rintro e w12 ⟨F', M', rfl, hn, hs⟩
  replace HX := Lib.hid (HX.out.step hs HR.out.net.FM)
  replace HBX := Lib.hid (HBX.out.step hs HR.out.net.FM)
  replace HY := Lib.hid (HY.out.step hs HR.out.net.FM)
  replace HBY := Lib.hid (HBY.out.step hs HR.out.net.FM)
  replace HR := Lib.hid (HR.out.step hn hs)
  clear hn hs HV
  go_wp2_with fail
  refine (drop_any w12 b ⟨3, 10, 3, [⟨0, 0, 1, [97]⟩], [(0, 1)]⟩ 0 1 7 HR.out.net (by unfold I64; omega) ⟨3, 10, 3, [], [(0, 1)]⟩ 0 0 0 0 (by kernel_rfl) rfl rfl).mono ?_
  rintro e w13 ⟨F', M', rfl, hn, hs⟩
  replace HX := Lib.hid (HX.out.step hs HR.out.net.FM)
  replace HBX := Lib.hid (HBX.out.step hs HR.out.net.FM)
  replace HY := Lib.hid (HY.out.step hs HR.out.net.FM)
  replace HBY := Lib.hid (HBY.out.step hs HR.out.net.FM)
  replace HR := Lib.hid (HR.out.step hn hs)
  clear hn hs
  go_wp2_with fail
  refine (put_any (B := NoB) w13 b ⟨3, 10, 3, [], [(0, 1)]⟩ 3 0 _ [] HR.out.net (by unfold I64; omega) (by unfold I64; omega) SlV.nil (by decide) (by decide) ⟨3, 10, 3, [], [(0, 1)]⟩ 0 2 2 0 (by kernel_rfl) rfl rfl).mono ?_
  rintro e w14 ⟨F', M', rfl, hn, hs⟩
  replace HX := Lib.hid (HX.out.step hs HR.out.net.FM)
  replace HBX := Lib.hid (HBX.out.step hs HR.out.net.FM)
  replace HY := Lib.hid (HY.out.step hs HR.out.net.FM)
  replace HBY := Lib.hid (HBY.out.step hs HR.out.net.FM)
  replace HR := Lib.hid (HR.out.step hn hs)
  clear hn hs
  go_wp2_with fail
  refine (take_any w14 b ⟨3, 10, 3, [], [(0, 1)]⟩ (0) (1) (0) HR.out.net (by unfold I64; omega) ⟨3, 10, 3, [], [(0, 1)]⟩ ⟨0, 0, 0, []⟩ 5 5 (by kernel_rfl) rfl).mono ?_
  rintro e w15 ⟨F', M', bvu, rfl, hb, hn, hs⟩
  have hb2 := hb.mono (A' := Out w15 M') (fun k hk => ⟨hk.1.2, hk.2⟩)
  obtain ⟨au, cu, rfl⟩ := hb.len
  replace HX := Lib.hid (HX.out.step hs HR.out.net.FM)
  replace HBX := Lib.hid (HBX.out.step hs HR.out.net.FM)
  replace HY := Lib.hid (HY.out.step hs HR.out.net.FM)
  replace HBY := Lib.hid (HBY.out.step hs HR.out.net.FM)
  replace HR := Lib.hid (HR.out.step hn hs)
  clear hb hn hs
  skip
  go_wp2_with fail
  have bu0 := (Box.new w15 50 [.int .i64 0, .int .i64 0, .int .i64 0, .slice au 0 cu])
  have eu : Ext w15 (w15.alloc (Obj.cells #[.int .i64 0, .int .i64 0, .int .i64 0, .slice au 0 cu] 50)) := ((Keeps.refl NoB w15).alloc _)
  have su : (w15.alloc (Obj.cells #[.int .i64 0, .int .i64 0, .int .i64 0, .slice au 0 cu] 50)).heap.size = w15.heap.size + 1 := by simp
  generalize (w15.alloc (Obj.cells #[.int .i64 0, .int .i64 0, .int .i64 0, .slice au 0 cu] 50)) = w16 at bu0 eu su ⊢
  have Su := Lib.hid su
  clear su
  have bxu := HR.out.nbox (Nat.le_refl _) bu0
  have hbu : OB w16 M' _ _ := OB.ext hb2 eu
  replace HR := Lib.hid (HR.out.ext eu)
  replace HX := Lib.hid (HX.out.ext eu)
  replace HBX := Lib.hid (HBX.out.ext eu)
  replace HY := Lib.hid (HY.out.ext eu)
  replace HBY := Lib.hid (HBY.out.ext eu)
  clear hb2 eu bu0
  clear hbu bxu
  go_wp2_with fail
  refine (take_any w16 b ⟨3, 10, 3, [], [(0, 1)]⟩ (0) (-1) (0) HR.out.net (by unfold I64; omega) ⟨3, 10, 3, [], [(0, 1)]⟩ ⟨0, 0, 0, []⟩ 2 2 (by kernel_rfl) rfl).mono ?_
  rintro e w17 ⟨F', M', bvv, rfl, hb, hn, hs⟩
  have hb2 := hb.mono (A' := Out w17 M') (fun k hk => ⟨hk.1.2, hk.2⟩)
  obtain ⟨av, cv, rfl⟩ := hb.len
  replace HX := Lib.hid (HX.out.step hs HR.out.net.FM)
  replace HBX := Lib.hid (HBX.out.step hs HR.out.net.FM)
  replace HY := Lib.hid (HY.out.step hs HR.out.net.FM)
  replace HBY := Lib.hid (HBY.out.step hs HR.out.net.FM)
  replace HR := Lib.hid (HR.out.step hn hs)
  clear hb hn hs
  skip
  go_wp2_with fail
  have bv0 := (Box.new w17 50 [.int .i64 0, .int .i64 0, .int .i64 0, .slice av 0 cv])
  have ev : Ext w17 (w17.alloc (Obj.cells #[.int .i64 0, .int .i64 0, .int .i64 0, .slice av 0 cv] 50)) := ((Keeps.refl NoB w17).alloc _)
  have sv : (w17.alloc (Obj.cells #[.int .i64 0, .int .i64 0, .int .i64 0, .slice av 0 cv] 50)).heap.size = w17.heap.size + 1 := by simp
  generalize (w17.alloc (Obj.cells #[.int .i64 0, .int .i64 0, .int .i64 0, .slice av 0 cv] 50)) = w18 at bv0 ev sv ⊢
  have Sv := Lib.hid sv
  clear sv
  have bxv := HR.out.nbox (Nat.le_refl _) bv0
  have hbv : OB w18 M' _ _ := OB.ext hb2 ev
  replace HR := Lib.hid (HR.out.ext ev)
  replace HX := Lib.hid (HX.out.ext ev)
  replace HBX := Lib.hid (HBX.out.ext ev)
  replace HY := Lib.hid (HY.out.ext ev)
  replace HBY := Lib.hid (HBY.out.ext ev)
  clear hb2 ev bv0
  clear hbv bxv
  have hx : (convert 30 9 (.slice ax 1 cx)).run Try.prog w18 = .ok (.string (bs [99])) w18 := Bytes.str HX.out
  have hy : (convert 30 9 (.slice ay 1 cy)).run Try.prog w18 = .ok (.string (bs [98])) w18 := Bytes.str HY.out
  have s1 : (bs [99]).toList = [99] := by kernel_rfl
  have s2 : (bs [98]).toList = [98] := by kernel_rfl
  obtain ⟨q1, q2⟩ := HBX.out.1.reads
  obtain ⟨p1, p2⟩ := HBY.out.1.reads
  have l1 := HBX.out.1.lt
  have l2 := HBY.out.1.lt
  clear hcv
  refine (num_any _ _).mono ?_
  rintro e w' ⟨rfl, rfl⟩
  go_wp2_with fail
  refine (num_any _ _).mono ?_
  rintro e w' ⟨rfl, rfl⟩
  go_wp2_with fail
  refine (num_any _ _).mono ?_
  rintro e w' ⟨rfl, rfl⟩
  go_wp2_with fail
  refine (num_any _ _).mono ?_
  rintro e w' ⟨rfl, rfl⟩
  go_wp2_with fail
  refine (num_any _ _).mono ?_
  rintro e w' ⟨rfl, rfl⟩
  go_wp2_with fail
  refine (num_any _ _).mono ?_
  rintro e w' ⟨rfl, rfl⟩
  go_wp2_with fail
  refine (num_any _ _).mono ?_
  rintro e w' ⟨rfl, rfl⟩
  go_wp2_with fail
  refine (num_any _ _).mono ?_
  rintro e w' ⟨rfl, rfl⟩
  go_wp2_with fail
  refine (num_any _ _).mono ?_
  rintro e w' ⟨rfl, rfl⟩
  go_wp2_with fail
  refine (num_any _ _).mono ?_
  rintro e w' ⟨rfl, rfl⟩
  go_wp2_with fail
  refine (num_any _ _).mono ?_
  rintro e w' ⟨rfl, rfl⟩
  go_wp2_with fail
  refine (num_any _ _).mono ?_
  rintro e w' ⟨rfl, rfl⟩
  go_wp2_with fail
  refine (num_any _ _).mono ?_
  rintro e w' ⟨rfl, rfl⟩
  go_wp2_with fail
  refine (len_any w18 b ⟨3, 10, 3, [], [(0, 1)]⟩ (-1) (-1) HR.out.net 0 0 (by kernel_rfl) rfl).mono ?_
  rintro e w19 ⟨rfl, hE⟩
  replace HR := Lib.hid (HR.out.ext hE)
  clear hE hx hy q1 q2 p1 p2 l1 l2
  go_wp2_with fail
  refine (came_any w19 b _ HR.out.net).mono ?_
  rintro e w' ⟨rfl, rfl⟩
  go_wp2_with fail
  go_ret
  exact ⟨rfl, HR.out.E⟩
end Go.Proofs.Ytdiogipdcpiffaa
