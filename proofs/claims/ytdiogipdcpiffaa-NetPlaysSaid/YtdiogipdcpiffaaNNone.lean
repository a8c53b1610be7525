/- The calls of no net: nil, or one that was never made. Conditions: it lies as 'NoNet' says. -/
import Derived.Test.YtdiogipdcpiffaaNCopies
set_option linter.unusedVariables false
set_option maxHeartbeats 400000
set_option maxRecDepth 10000
namespace Go.Proofs.Ytdiogipdcpiffaa
open Go.RowKit

section
variable {p : Option Addr}
theorem put_no (w : World) (h : NoNet w p) (f t : Int) :
    Calls Try.prog 11 #[.pointer p, .int .i64 f, .int .i64 t, .slice none 0 0] w fun e w' => e = .returned (.tuple #[.int .i64 0, .int .i64 1]) ∧ Ext w w' := by
  have HN := Lib.hid h
  clear h
  go_enter Try.func11, Try.ntmps11
  go_wp2_with fail
  have bx0 := (((((Box.new w 23 [.pointer p]).alloc (Obj.cells #[.int .i64 f] 3)).alloc (Obj.cells #[.int .i64 t] 3)).alloc (Obj.cells #[.slice none 0 0] 30)).alloc (Obj.cells #[.func (.func 32) #[.pointer p] #[], .int .i64 1, .func (.func 33) #[] #[.pointer (some ⟨w.heap.size, 0, none⟩), .pointer (some ⟨w.heap.size + 1, 0, none⟩), .pointer (some ⟨w.heap.size + 1 + 1, 0, none⟩)], .int .i64 2, .func (.func 35) #[] #[.pointer (some ⟨w.heap.size + 1 + 1 + 1, 0, none⟩)], .int .i64 3, .func (.func 36) #[] #[.pointer (some ⟨w.heap.size, 0, none⟩), .pointer (some ⟨w.heap.size + 1, 0, none⟩), .pointer (some ⟨w.heap.size + 1 + 1, 0, none⟩)], .int .i64 210, .func (.func 37) #[] #[.pointer (some ⟨w.heap.size, 0, none⟩)], .int .i64 211] 76))
  have bx1 := ((((Box.new (w.alloc (Obj.cells #[.pointer p] 23)) 3 [.int .i64 f]).alloc (Obj.cells #[.int .i64 t] 3)).alloc (Obj.cells #[.slice none 0 0] 30)).alloc (Obj.cells #[.func (.func 32) #[.pointer p] #[], .int .i64 1, .func (.func 33) #[] #[.pointer (some ⟨w.heap.size, 0, none⟩), .pointer (some ⟨w.heap.size + 1, 0, none⟩), .pointer (some ⟨w.heap.size + 1 + 1, 0, none⟩)], .int .i64 2, .func (.func 35) #[] #[.pointer (some ⟨w.heap.size + 1 + 1 + 1, 0, none⟩)], .int .i64 3, .func (.func 36) #[] #[.pointer (some ⟨w.heap.size, 0, none⟩), .pointer (some ⟨w.heap.size + 1, 0, none⟩), .pointer (some ⟨w.heap.size + 1 + 1, 0, none⟩)], .int .i64 210, .func (.func 37) #[] #[.pointer (some ⟨w.heap.size, 0, none⟩)], .int .i64 211] 76))
  have bx2 := (((Box.new ((w.alloc (Obj.cells #[.pointer p] 23)).alloc (Obj.cells #[.int .i64 f] 3)) 3 [.int .i64 t]).alloc (Obj.cells #[.slice none 0 0] 30)).alloc (Obj.cells #[.func (.func 32) #[.pointer p] #[], .int .i64 1, .func (.func 33) #[] #[.pointer (some ⟨w.heap.size, 0, none⟩), .pointer (some ⟨w.heap.size + 1, 0, none⟩), .pointer (some ⟨w.heap.size + 1 + 1, 0, none⟩)], .int .i64 2, .func (.func 35) #[] #[.pointer (some ⟨w.heap.size + 1 + 1 + 1, 0, none⟩)], .int .i64 3, .func (.func 36) #[] #[.pointer (some ⟨w.heap.size, 0, none⟩), .pointer (some ⟨w.heap.size + 1, 0, none⟩), .pointer (some ⟨w.heap.size + 1 + 1, 0, none⟩)], .int .i64 210, .func (.func 37) #[] #[.pointer (some ⟨w.heap.size, 0, none⟩)], .int .i64 211] 76))
  have bx3 := ((Box.new (((w.alloc (Obj.cells #[.pointer p] 23)).alloc (Obj.cells #[.int .i64 f] 3)).alloc (Obj.cells #[.int .i64 t] 3)) 30 [.slice none 0 0]).alloc (Obj.cells #[.func (.func 32) #[.pointer p] #[], .int .i64 1, .func (.func 33) #[] #[.pointer (some ⟨w.heap.size, 0, none⟩), .pointer (some ⟨w.heap.size + 1, 0, none⟩), .pointer (some ⟨w.heap.size + 1 + 1, 0, none⟩)], .int .i64 2, .func (.func 35) #[] #[.pointer (some ⟨w.heap.size + 1 + 1 + 1, 0, none⟩)], .int .i64 3, .func (.func 36) #[] #[.pointer (some ⟨w.heap.size, 0, none⟩), .pointer (some ⟨w.heap.size + 1, 0, none⟩), .pointer (some ⟨w.heap.size + 1 + 1, 0, none⟩)], .int .i64 210, .func (.func 37) #[] #[.pointer (some ⟨w.heap.size, 0, none⟩)], .int .i64 211] 76))
  have bx4 := (Box.new ((((w.alloc (Obj.cells #[.pointer p] 23)).alloc (Obj.cells #[.int .i64 f] 3)).alloc (Obj.cells #[.int .i64 t] 3)).alloc (Obj.cells #[.slice none 0 0] 30)) 76 [.func (.func 32) #[.pointer p] #[], .int .i64 1, .func (.func 33) #[] #[.pointer (some ⟨w.heap.size, 0, none⟩), .pointer (some ⟨w.heap.size + 1, 0, none⟩), .pointer (some ⟨w.heap.size + 1 + 1, 0, none⟩)], .int .i64 2, .func (.func 35) #[] #[.pointer (some ⟨w.heap.size + 1 + 1 + 1, 0, none⟩)], .int .i64 3, .func (.func 36) #[] #[.pointer (some ⟨w.heap.size, 0, none⟩), .pointer (some ⟨w.heap.size + 1, 0, none⟩), .pointer (some ⟨w.heap.size + 1 + 1, 0, none⟩)], .int .i64 210, .func (.func 37) #[] #[.pointer (some ⟨w.heap.size, 0, none⟩)], .int .i64 211])
  have ex : Ext w (((((w.alloc (Obj.cells #[.pointer p] 23)).alloc (Obj.cells #[.int .i64 f] 3)).alloc (Obj.cells #[.int .i64 t] 3)).alloc (Obj.cells #[.slice none 0 0] 30)).alloc (Obj.cells #[.func (.func 32) #[.pointer p] #[], .int .i64 1, .func (.func 33) #[] #[.pointer (some ⟨w.heap.size, 0, none⟩), .pointer (some ⟨w.heap.size + 1, 0, none⟩), .pointer (some ⟨w.heap.size + 1 + 1, 0, none⟩)], .int .i64 2, .func (.func 35) #[] #[.pointer (some ⟨w.heap.size + 1 + 1 + 1, 0, none⟩)], .int .i64 3, .func (.func 36) #[] #[.pointer (some ⟨w.heap.size, 0, none⟩), .pointer (some ⟨w.heap.size + 1, 0, none⟩), .pointer (some ⟨w.heap.size + 1 + 1, 0, none⟩)], .int .i64 210, .func (.func 37) #[] #[.pointer (some ⟨w.heap.size, 0, none⟩)], .int .i64 211] 76)) := ((((((Keeps.refl NoB w).alloc _).alloc _).alloc _).alloc _).alloc _)
  have sx : (((((w.alloc (Obj.cells #[.pointer p] 23)).alloc (Obj.cells #[.int .i64 f] 3)).alloc (Obj.cells #[.int .i64 t] 3)).alloc (Obj.cells #[.slice none 0 0] 30)).alloc (Obj.cells #[.func (.func 32) #[.pointer p] #[], .int .i64 1, .func (.func 33) #[] #[.pointer (some ⟨w.heap.size, 0, none⟩), .pointer (some ⟨w.heap.size + 1, 0, none⟩), .pointer (some ⟨w.heap.size + 1 + 1, 0, none⟩)], .int .i64 2, .func (.func 35) #[] #[.pointer (some ⟨w.heap.size + 1 + 1 + 1, 0, none⟩)], .int .i64 3, .func (.func 36) #[] #[.pointer (some ⟨w.heap.size, 0, none⟩), .pointer (some ⟨w.heap.size + 1, 0, none⟩), .pointer (some ⟨w.heap.size + 1 + 1, 0, none⟩)], .int .i64 210, .func (.func 37) #[] #[.pointer (some ⟨w.heap.size, 0, none⟩)], .int .i64 211] 76)).heap.size = w.heap.size + 5 := by simp
  simp only [World.size_alloc] at bx1 bx2 bx3 bx4
  generalize (((((w.alloc (Obj.cells #[.pointer p] 23)).alloc (Obj.cells #[.int .i64 f] 3)).alloc (Obj.cells #[.int .i64 t] 3)).alloc (Obj.cells #[.slice none 0 0] 30)).alloc (Obj.cells #[.func (.func 32) #[.pointer p] #[], .int .i64 1, .func (.func 33) #[] #[.pointer (some ⟨w.heap.size, 0, none⟩), .pointer (some ⟨w.heap.size + 1, 0, none⟩), .pointer (some ⟨w.heap.size + 1 + 1, 0, none⟩)], .int .i64 2, .func (.func 35) #[] #[.pointer (some ⟨w.heap.size + 1 + 1 + 1, 0, none⟩)], .int .i64 3, .func (.func 36) #[] #[.pointer (some ⟨w.heap.size, 0, none⟩), .pointer (some ⟨w.heap.size + 1, 0, none⟩), .pointer (some ⟨w.heap.size + 1 + 1, 0, none⟩)], .int .i64 210, .func (.func 37) #[] #[.pointer (some ⟨w.heap.size, 0, none⟩)], .int .i64 211] 76)) = w0 at bx0 bx1 bx2 bx3 bx4 ex sx ⊢
  have Sx := Lib.hid sx
  clear sx
  have hfirst : Calls Try.prog 31 #[.slice (some ⟨w.heap.size + 1 + 1 + 1 + 1, 0, none⟩) 5 5] w0 fun e w' => e = .returned (.int .i64 1) ∧ Ext w0 w' := by
    have HF := Lib.hid bx4
    have HN0 := Lib.hid (HN.out.ext ex)
    obtain ⟨q, hq⟩ : ∃ q, w.heap.size + 1 + 1 + 1 + 1 = q := ⟨_, rfl⟩
    rw [hq] at HF ⊢
    clear hq ex bx0 bx1 bx2 bx3 bx4 Sx HN
    go_enter Try.func31, Try.ntmps31
    obtain ⟨cHF, zHF⟩ := HF.out.reads
    have lHF := HF.out.lt
    go_wp2_with fail
    refine wp_loop_rounds 6 ?_
    rw [rounds_succ]
    go_wp2_with fail
    have by0 := (Box.new w0 76 [.func (.func 32) #[.pointer p] #[], .int .i64 1])
    have ey : Ext w0 (w0.alloc (Obj.cells #[.func (.func 32) #[.pointer p] #[], .int .i64 1] 76)) := ((Keeps.refl NoB w0).alloc _)
    have sy : (w0.alloc (Obj.cells #[.func (.func 32) #[.pointer p] #[], .int .i64 1] 76)).heap.size = w0.heap.size + 1 := by simp
    generalize (w0.alloc (Obj.cells #[.func (.func 32) #[.pointer p] #[], .int .i64 1] 76)) = w1 at by0 ey sy ⊢
    have Sy := Lib.hid sy
    clear sy
    have HB := Lib.hid by0
    have HE := Lib.hid ey
    clear cHF zHF lHF
    replace HF := Lib.hid (HF.out.ext ey)
    refine (none_no w1 p (HN0.out.ext ey)).mono ?_
    rintro e w' ⟨rfl, rfl⟩
    clear ey by0
    obtain ⟨cHF, zHF⟩ := HF.out.reads
    have lHF := HF.out.lt
    obtain ⟨cHB, zHB⟩ := HB.out.reads
    have lHB := HB.out.lt
    go_wp2_with fail
    go_ret
    exact ⟨rfl, HE.out⟩
  have HE := Lib.hid ex
  clear ex bx0 bx1 bx2 bx3 bx4
  refine hfirst.mono ?_
  rintro e w1 ⟨rfl, hE⟩
  have HE1 := Lib.hid (HE.out.ext hE)
  clear hE hfirst
  go_wp2_with fail
  go_ret2
  exact ⟨rfl, HE1.out⟩
theorem pick_no (w : World) (h : NoNet w p) (f t k : Int) :
    Calls Try.prog 39 #[.pointer p, .int .i64 f, .int .i64 t, .int .i64 k] w fun e w' => e = .returned (.tuple #[.int .i64 0, .int .i64 1]) ∧ w = w' := by
  have HN := Lib.hid h
  clear h
  go_enter Try.func39, Try.ntmps39
  go_wp2_with fail
  refine (none_no w p HN.out).mono ?_
  rintro e w' ⟨rfl, rfl⟩
  go_wp2_with fail
  go_ret2
  exact ⟨rfl, rfl⟩
theorem peek_no (w : World) (h : NoNet w p) (f t k : Int) :
    Calls Try.prog 30 #[.pointer p, .int .i64 f, .int .i64 t, .int .i64 k] w fun e w' => e = .returned (.tuple #[zeroP, .int .i64 1]) ∧ Ext w w' := by
  have HN := Lib.hid h
  clear h
  go_enter Try.func30, Try.ntmps30
  go_wp2_with fail
  have bx0 := (Box.new w 50 [.int .i64 0, .int .i64 0, .int .i64 0, .slice none 0 0])
  have ex : Ext w (w.alloc (Obj.cells #[.int .i64 0, .int .i64 0, .int .i64 0, .slice none 0 0] 50)) := ((Keeps.refl NoB w).alloc _)
  have sx : (w.alloc (Obj.cells #[.int .i64 0, .int .i64 0, .int .i64 0, .slice none 0 0] 50)).heap.size = w.heap.size + 1 := by simp
  generalize (w.alloc (Obj.cells #[.int .i64 0, .int .i64 0, .int .i64 0, .slice none 0 0] 50)) = w0 at bx0 ex sx ⊢
  have Sx := Lib.hid sx
  clear sx
  have B0 := Lib.hid bx0
  have HE := Lib.hid ex
  refine (pick_no w0 (HN.out.ext ex) f t k).mono ?_
  rintro e w' ⟨rfl, rfl⟩
  clear ex bx0
  obtain ⟨cB0, zB0⟩ := B0.out.reads
  have lB0 := B0.out.lt
  go_wp2_with fail
  have hs := Sx.out
  have q := (((B0.out.set 0 (.int .i64 0)).set 1 (.int .i64 0)).set 2 (.int .i64 0)).set 3 (.slice none 0 0)
  dsimp only [List.set_cons_zero, List.set_cons_succ] at q
  have q1 := q.reads.1
  clear cB0 zB0 lB0
  refine bodyPost_ret (v := .tuple #[zeroP, .int .i64 1]) (by simp [results, Try.results30, go_sem, q1, zeroP]) rfl ⟨rfl, ?_⟩
  exact HE.out.then ((((((Keeps.refl (OneB w.heap.size) w0).setOne 0 _).setOne 1 _).setOne 2 _).setOne 3 _)) (fun i hi h => by unfold OneB at h; omega)
theorem drop_no (w : World) (h : NoNet w p) (f t k : Int) :
    Calls Try.prog 13 #[.pointer p, .int .i64 f, .int .i64 t, .int .i64 k] w fun e w' => e = .returned (.tuple #[.int .i64 0, .int .i64 1]) ∧ w = w' := by
  have HN := Lib.hid h
  clear h
  go_enter Try.func13, Try.ntmps13
  go_wp2_with fail
  refine (pick_no w HN.out f t k).mono ?_
  rintro e w' ⟨rfl, rfl⟩
  go_wp2_with fail
  go_ret2
  exact ⟨rfl, rfl⟩
theorem take_no (w : World) (h : NoNet w p) (f t k : Int) :
    Calls Try.prog 23 #[.pointer p, .int .i64 f, .int .i64 t, .int .i64 k] w fun e w' => e = .returned (.tuple #[zeroP, .int .i64 1]) ∧ Ext w w' := by
  have HN := Lib.hid h
  clear h
  go_enter Try.func23, Try.ntmps23
  go_wp2_with fail
  have bx0 := (Box.new w 50 [.int .i64 0, .int .i64 0, .int .i64 0, .slice none 0 0])
  have ex : Ext w (w.alloc (Obj.cells #[.int .i64 0, .int .i64 0, .int .i64 0, .slice none 0 0] 50)) := ((Keeps.refl NoB w).alloc _)
  have sx : (w.alloc (Obj.cells #[.int .i64 0, .int .i64 0, .int .i64 0, .slice none 0 0] 50)).heap.size = w.heap.size + 1 := by simp
  generalize (w.alloc (Obj.cells #[.int .i64 0, .int .i64 0, .int .i64 0, .slice none 0 0] 50)) = w0 at bx0 ex sx ⊢
  have Sx := Lib.hid sx
  clear sx
  have B0 := Lib.hid bx0
  have HE := Lib.hid ex
  refine (peek_no w0 (HN.out.ext ex) f t k).mono ?_
  rintro e w1 ⟨rfl, hE⟩
  clear ex bx0
  have h01 := hE.size
  have hs0 := B0.out.lt
  replace HE := Lib.hid (HE.out.ext hE)
  replace B0 := Lib.hid (B0.out.ext hE)
  clear hE
  obtain ⟨cB0, zB0⟩ := B0.out.reads
  have lB0 := B0.out.lt
  simp only [zeroP]
  go_wp2_with fail
  clear cB0 zB0 lB0
  have q := (((B0.out.set 0 (.int .i64 0)).set 1 (.int .i64 0)).set 2 (.int .i64 0)).set 3 (.slice none 0 0)
  dsimp only [List.set_cons_zero, List.set_cons_succ] at q
  have hk : Keeps (OneB w.heap.size) w1 ((((w1.setCell ⟨w.heap.size, 0, none⟩ (.int .i64 0)).setCell ⟨w.heap.size, 1, none⟩ (.int .i64 0)).setCell ⟨w.heap.size, 2, none⟩ (.int .i64 0)).setCell ⟨w.heap.size, 3, none⟩ (.slice none 0 0)) := ((((Keeps.refl _ _).setOne _ _).setOne _ _).setOne _ _).setOne _ _
  generalize ((((w1.setCell ⟨w.heap.size, 0, none⟩ (.int .i64 0)).setCell ⟨w.heap.size, 1, none⟩ (.int .i64 0)).setCell ⟨w.heap.size, 2, none⟩ (.int .i64 0)).setCell ⟨w.heap.size, 3, none⟩ (.slice none 0 0)) = w2 at q hk ⊢
  have q1 := (q.alloc (Obj.cells #[.int .i64 0, .int .i64 0, .int .i64 0, .slice none 0 0] 50)).reads.1
  refine bodyPost_ret (v := .tuple #[zeroP, .int .i64 1]) (by simp [results, Try.results23, go_sem, q1, zeroP]) rfl ⟨rfl, ?_⟩
  exact (HE.out.then hk (fun i hi h => by unfold OneB at h; omega)).alloc _
theorem down_no (w : World) (h : NoNet w p) (f t : Int) (b : Bool) :
    Calls Try.prog 24 #[.pointer p, .int .i64 f, .int .i64 t, .bool b] w fun e w' => e = .returned (.int .i64 1) ∧ w = w' := by
  have HN := Lib.hid h
  clear h
  go_enter Try.func24, Try.ntmps24
  go_wp2_with fail
  refine (none_no w p HN.out).mono ?_
  rintro e w' ⟨rfl, rfl⟩
  go_wp2_with fail
  go_ret
  exact ⟨rfl, rfl⟩
theorem isdown_no (w : World) (h : NoNet w p) (f t : Int) :
    Calls Try.prog 21 #[.pointer p, .int .i64 f, .int .i64 t] w fun e w' => e = .returned (.bool false) ∧ w = w' := by
  have HN := Lib.hid h
  clear h
  go_enter Try.func21, Try.ntmps21
  go_wp2_with fail
  refine (none_no w p HN.out).mono ?_
  rintro e w' ⟨rfl, rfl⟩
  go_wp2_with fail
  go_ret
  exact ⟨rfl, rfl⟩
theorem len_no (w : World) (h : NoNet w p) (f t : Int) :
    Calls Try.prog 14 #[.pointer p, .int .i64 f, .int .i64 t] w fun e w' => e = .returned (.int .i64 0) ∧ w = w' := by
  have HN := Lib.hid h
  clear h
  go_enter Try.func14, Try.ntmps14
  go_wp2_with fail
  refine (none_no w p HN.out).mono ?_
  rintro e w' ⟨rfl, rfl⟩
  go_wp2_with fail
  go_ret
  exact ⟨rfl, rfl⟩
theorem came_no (w : World) (h : NoNet w p) :
    Calls Try.prog 25 #[.pointer p] w fun e w' => e = .returned (.int .i64 0) ∧ w = w' := by
  have HN := Lib.hid h
  clear h
  go_enter Try.func25, Try.ntmps25
  go_wp2_with fail
  refine (none_no w p HN.out).mono ?_
  rintro e w' ⟨rfl, rfl⟩
  go_wp2_with fail
  go_ret
  exact ⟨rfl, rfl⟩
theorem copy_no (w : World) (h : NoNet w p) :
    Calls Try.prog 26 #[.pointer p] w fun e w' => e = .returned (.pointer none) ∧ w = w' := by
  have HN := Lib.hid h
  clear h
  go_enter Try.func26, Try.ntmps26
  go_wp2_with fail
  refine (none_no w p HN.out).mono ?_
  rintro e w' ⟨rfl, rfl⟩
  go_wp2_with fail
  go_ret
  exact ⟨rfl, rfl⟩
theorem same_nono (w : World) (p2 : Option Addr) (h : NoNet w p) (h2 : NoNet w p2) :
    Calls Try.prog 27 #[.pointer p, .pointer p2] w fun e w' => e = .returned (.bool true) ∧ w = w' := by
  have HN := Lib.hid h
  have HN2 := Lib.hid h2
  clear h h2
  go_enter Try.func27, Try.ntmps27
  go_wp2_with fail
  refine (none_no w p HN.out).mono ?_
  rintro e w' ⟨rfl, rfl⟩
  go_wp2_with fail
  refine (none_no w p HN.out).mono ?_
  rintro e w' ⟨rfl, rfl⟩
  go_wp2_with fail
  refine (none_no w p2 HN2.out).mono ?_
  rintro e w' ⟨rfl, rfl⟩
  go_wp2_with fail
  go_ret
  exact ⟨rfl, rfl⟩
theorem same_yn {F M : Nat → Prop} (w : World) (b : Nat) (N : NA) (h : NetX w F M b N) (h2 : NoNet w p) :
    Calls Try.prog 27 #[.pointer (some ⟨b, 0, none⟩), .pointer p] w fun e w' => e = .returned (.bool false) ∧ w = w' := by
  have HN := Lib.hid h
  have HN2 := Lib.hid h2
  clear h h2
  go_enter Try.func27, Try.ntmps27
  go_wp2_with fail
  refine (none_net w b N HN.out).mono ?_
  rintro e w' ⟨rfl, rfl⟩
  go_wp2_with fail
  refine (none_no w p HN2.out).mono ?_
  rintro e w' ⟨rfl, rfl⟩
  go_wp2_with fail
  refine (none_net w b N HN.out).mono ?_
  rintro e w' ⟨rfl, rfl⟩
  go_wp2_with fail
  go_ret
  exact ⟨rfl, rfl⟩
theorem same_ny {F M : Nat → Prop} (w : World) (b : Nat) (N : NA) (h : NetX w F M b N) (h2 : NoNet w p) :
    Calls Try.prog 27 #[.pointer p, .pointer (some ⟨b, 0, none⟩)] w fun e w' => e = .returned (.bool false) ∧ w = w' := by
  have HN := Lib.hid h
  have HN2 := Lib.hid h2
  clear h h2
  go_enter Try.func27, Try.ntmps27
  go_wp2_with fail
  refine (none_no w p HN2.out).mono ?_
  rintro e w' ⟨rfl, rfl⟩
  go_wp2_with fail
  refine (none_no w p HN2.out).mono ?_
  rintro e w' ⟨rfl, rfl⟩
  go_wp2_with fail
  refine (none_net w b N HN.out).mono ?_
  rintro e w' ⟨rfl, rfl⟩
  go_wp2_with fail
  go_ret
  exact ⟨rfl, rfl⟩
theorem all_no (w : World) (h : NoNet w p) :
    Calls Try.prog 17 #[.pointer p] w fun e w' =>
      e = .returned (.func (.func 45) #[] #[.pointer (some ⟨w.heap.size, 0, none⟩)]) ∧ SeqN w' (fun _ => False) w.heap.size [] ∧ Ext w w' := by
  have HN := Lib.hid h
  clear h
  go_enter Try.func17, Try.ntmps17
  go_wp2_with fail
  have bx0 := (Box.new w 69 [.slice none 0 0])
  have ex : Ext w (w.alloc (Obj.cells #[.slice none 0 0] 69)) := ((Keeps.refl NoB w).alloc _)
  have sx : (w.alloc (Obj.cells #[.slice none 0 0] 69)).heap.size = w.heap.size + 1 := by simp
  generalize (w.alloc (Obj.cells #[.slice none 0 0] 69)) = w0 at bx0 ex sx ⊢
  have Sx := Lib.hid sx
  clear sx
  have B0 := Lib.hid bx0
  have HE := Lib.hid ex
  refine (none_no w0 p (HN.out.ext ex)).mono ?_
  rintro e w' ⟨rfl, rfl⟩
  clear ex bx0
  obtain ⟨cB0, zB0⟩ := B0.out.reads
  have lB0 := B0.out.lt
  go_wp2_with fail
  go_ret
  exact ⟨rfl, ⟨_, cB0 0, SlV.nil⟩, HE.out⟩
end
end Go.Proofs.Ytdiogipdcpiffaa
