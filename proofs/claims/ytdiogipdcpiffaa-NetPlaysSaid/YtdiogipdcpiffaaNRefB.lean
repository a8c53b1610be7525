/- The document's net: On and picked. Conditions: it lies as 'RefV' says. -/
import Derived.Test.YtdiogipdcpiffaaNRef
set_option linter.unusedVariables false
set_option maxHeartbeats 400000
set_option maxRecDepth 10000
namespace Go.Proofs.Ytdiogipdcpiffaa
open Go.RowKit

set_option maxHeartbeats 1000000 in
theorem ron_arg {A : Nat → Prop} (w : World) (v : Value) (N : NA) (f t : Int) (h : RefV w A v N) (hk : N.link f t = false) (he : N.ends ≤ 64) :
    Calls Try.prog 20 #[v, .int .i64 f, .int .i64 t] w fun e w' => e = .returned (.tuple #[.slice none 0 0, .int .i64 2]) ∧ Ext w w' := by
  obtain ⟨a, c, a', c', rfl, hp, hq⟩ := h.args
  unfold NA.link at hk
  rw [Bool.or_eq_false_iff] at hk
  obtain ⟨hk1, hk2⟩ := hk
  have HK2 := Lib.hid hk2
  clear h hp hq hk2
  have hm : (f == -1) = false ∨ ((f == -1) = true ∧ (t == -1) = false) := by
    cases hf : (f == -1)
    · exact .inl rfl
    · rw [hf, Bool.true_and] at hk1; exact .inr ⟨rfl, hk1⟩
  clear hk1
  rcases hm with hf | ⟨hf, ht⟩
  all_goals
    cases h1 : N.endB f with
    | false =>
      go_enter Try.func20, Try.ntmps20
      go_wp2_with fail
      have bx0 := (Box.new w 41 [.int .i64 (N.ends : Int), .int .i64 (N.most : Int), .int .i64 (N.came : Int), .slice a N.l.length c, .slice a' N.downs.length c'])
      have ex : Ext w (w.alloc (Obj.cells #[.int .i64 (N.ends : Int), .int .i64 (N.most : Int), .int .i64 (N.came : Int), .slice a N.l.length c, .slice a' N.downs.length c'] 41)) := ((Keeps.refl NoB w).alloc _)
      have sx : (w.alloc (Obj.cells #[.int .i64 (N.ends : Int), .int .i64 (N.most : Int), .int .i64 (N.came : Int), .slice a N.l.length c, .slice a' N.downs.length c'] 41)).heap.size = w.heap.size + 1 := by simp
      generalize (w.alloc (Obj.cells #[.int .i64 (N.ends : Int), .int .i64 (N.most : Int), .int .i64 (N.came : Int), .slice a N.l.length c, .slice a' N.downs.length c'] 41)) = w0 at bx0 ex sx ⊢
      have Sx := Lib.hid sx
      clear sx
      have HE := Lib.hid ex
      have BX := Lib.hid bx0
      clear ex bx0
      refine (rend_any w0 N _ _ f ⟨_, _, _, _, _, _, rfl, rfl⟩ he).mono ?_
      rintro e w1 ⟨rfl, hE⟩
      replace HE := Lib.hid (HE.out.ext hE)
      replace BX := Lib.hid (BX.out.ext hE)
      clear hE
      rw [h1]
      obtain ⟨cBX, zBX⟩ := BX.out.reads
      have lBX := BX.out.lt
      go_wp2_with fail
      go_ret2
      exact ⟨rfl, HE.out⟩
    | true =>
      go_enter Try.func20, Try.ntmps20
      go_wp2_with fail
      have bx0 := (Box.new w 41 [.int .i64 (N.ends : Int), .int .i64 (N.most : Int), .int .i64 (N.came : Int), .slice a N.l.length c, .slice a' N.downs.length c'])
      have ex : Ext w (w.alloc (Obj.cells #[.int .i64 (N.ends : Int), .int .i64 (N.most : Int), .int .i64 (N.came : Int), .slice a N.l.length c, .slice a' N.downs.length c'] 41)) := ((Keeps.refl NoB w).alloc _)
      have sx : (w.alloc (Obj.cells #[.int .i64 (N.ends : Int), .int .i64 (N.most : Int), .int .i64 (N.came : Int), .slice a N.l.length c, .slice a' N.downs.length c'] 41)).heap.size = w.heap.size + 1 := by simp
      generalize (w.alloc (Obj.cells #[.int .i64 (N.ends : Int), .int .i64 (N.most : Int), .int .i64 (N.came : Int), .slice a N.l.length c, .slice a' N.downs.length c'] 41)) = w0 at bx0 ex sx ⊢
      have Sx := Lib.hid sx
      clear sx
      have HE := Lib.hid ex
      have BX := Lib.hid bx0
      clear ex bx0
      refine (rend_any w0 N _ _ f ⟨_, _, _, _, _, _, rfl, rfl⟩ he).mono ?_
      rintro e w1 ⟨rfl, hE⟩
      replace HE := Lib.hid (HE.out.ext hE)
      replace BX := Lib.hid (BX.out.ext hE)
      clear hE
      rw [h1]
      obtain ⟨cBX, zBX⟩ := BX.out.reads
      have lBX := BX.out.lt
      go_wp2_with fail
      refine (rend_any w1 N _ _ t ⟨_, _, _, _, _, _, rfl, rfl⟩ he).mono ?_
      rintro e w2 ⟨rfl, hE⟩
      have HE2 := Lib.hid (HE.out.ext hE)
      have h2 : N.endB t = false := by (have := HK2.out; rw [h1, Bool.true_and] at this; exact this)
      rw [h2]
      clear hE
      clear cBX zBX lBX
      go_wp2_with fail
      go_ret2
      exact ⟨rfl, HE2.out⟩
set_option maxHeartbeats 2000000 in
theorem ron_all {A : Nat → Prop} (w : World) (v : Value) (N : NA) (f t : Int) (h : RefV w A v N) (hf : f = -1) (ht : t = -1) (hl : N.l.length ≤ 4096) (hA : ∀ k, A k → k < w.heap.size) :
    Calls Try.prog 20 #[v, .int .i64 f, .int .i64 t] w fun e w' => ∃ v', e = .returned (.tuple #[v', .int .i64 0]) ∧ Win w' w.heap.size 1 v' (N.on f t).length ((N.on f t).map intV) ∧ Ext w w' := by
  obtain ⟨a, c, a', c', rfl, hp, hq⟩ := h.args
  subst hf ht
  clear h hp hq
  obtain ⟨f, hff⟩ : ∃ f : Int, f = -1 := ⟨_, rfl⟩
  obtain ⟨t, htt⟩ : ∃ t : Int, t = -1 := ⟨_, rfl⟩
  have hon : N.on (-1) (-1) = N.on f t := by rw [hff, htt]
  have HON := Lib.hid hon
  have HH : Hid (∀ p, NA.hit f t p = true) := Lib.hid (fun p => by rw [hff]; rfl)
  clear hff htt hon
  go_enter Try.func20, Try.ntmps20
  go_wp2_with fail
  have bx0 := (Box.new w 41 [.int .i64 (N.ends : Int), .int .i64 (N.most : Int), .int .i64 (N.came : Int), .slice a N.l.length c, .slice a' N.downs.length c'])
  have ex : Ext w (w.alloc (Obj.cells #[.int .i64 (N.ends : Int), .int .i64 (N.most : Int), .int .i64 (N.came : Int), .slice a N.l.length c, .slice a' N.downs.length c'] 41)) := ((Keeps.refl NoB w).alloc _)
  have sx : (w.alloc (Obj.cells #[.int .i64 (N.ends : Int), .int .i64 (N.most : Int), .int .i64 (N.came : Int), .slice a N.l.length c, .slice a' N.downs.length c'] 41)).heap.size = w.heap.size + 1 := by simp
  generalize (w.alloc (Obj.cells #[.int .i64 (N.ends : Int), .int .i64 (N.most : Int), .int .i64 (N.came : Int), .slice a N.l.length c, .slice a' N.downs.length c'] 41)) = w0 at bx0 ex sx ⊢
  have Sx := Lib.hid sx
  clear sx
  have HE := Lib.hid ex
  have BX := Lib.hid bx0
  clear ex bx0
  go_loopw [9, 10] (fun o i wr => ∃ k : Nat, k ≤ N.l.length ∧ i = .int .i64 k ∧ Hid (Win wr w.heap.size 1 o (onTo f t N.l k).length ((onTo f t N.l k).map intV)) ∧ Hid (Ext w wr) ∧ Hid (Box wr w.heap.size 41 [.int .i64 (N.ends : Int), .int .i64 (N.most : Int), .int .i64 (N.came : Int), .slice a N.l.length c, .slice a' N.downs.length c'] ∧ ∀ g, o.ownBlock = some g → g ≠ w.heap.size)) (fun _ i _ => N.l.length - (intOf i).toNat)
  case atStart => exact ⟨0, Nat.zero_le _, rfl, Lib.hid (Win.nil _ _ _), HE, Lib.hid ⟨BX.out, fun g hg => by simp [Value.ownBlock] at hg⟩⟩
  case round =>
    obtain ⟨k, hk, rfl, hwin, he, hbr⟩ := hrel
    have HBr := Lib.hid hbr.out.1
    have HNo := Lib.hid hbr.out.2
    have hwr := he.out.size
    have hwb := hbr.out.1.lt
    clear hbr
    obtain ⟨cHBr, zHBr⟩ := HBr.out.reads
    have lHBr := HBr.out.lt
    by_cases hlt : k < N.l.length
    · have hs := onTo_succ f t N.l k hlt
      rw [HH.out] at hs
      simp only [if_true] at hs
      have HS := Lib.hid hs
      have hle := onTo_le f t N.l k
      clear hs
      go_wp2_with (at_builtin; refine standing ?_)
      have by0 := (Box.new wr 3 [.int .i64 (k : Int)])
      have ey : Ext wr (wr.alloc (Obj.cells #[.int .i64 (k : Int)] 3)) := ((Keeps.refl NoB wr).alloc _)
      have sy : (wr.alloc (Obj.cells #[.int .i64 (k : Int)] 3)).heap.size = wr.heap.size + 1 := by simp
      generalize (wr.alloc (Obj.cells #[.int .i64 (k : Int)] 3)) = w2 at by0 ey sy ⊢
      have Sy := Lib.hid sy
      clear sy
      have h2 := ey.size
      obtain ⟨v3, w3, hr3, hwin3, hk3, ho3⟩ := append_int w2 w.heap.size _ (onTo f t N.l k) 53 (hwin.out.ext ey) k wr.heap.size by0 (by omega) (by omega)
      rw [← HS.out] at hwin3
      have HW3 := Lib.hid hwin3
      have HE3 : Hid (Ext w w3) := Lib.hid ((he.out.ext ey).then hk3 (fun i hi h => by have := hwin.out.block i h; omega))
      have HB3 : Hid (Box w3 w.heap.size _ _ ∧ ∀ g, v3.ownBlock = some g → g ≠ w.heap.size) := Lib.hid ⟨(HBr.out.ext ey).keeps hk3 (fun h => HNo.out _ h rfl), fun g hg => by
        rcases ho3 with h | h
        · exact HNo.out g (h.symm.trans hg)
        · rw [h] at hg; injection hg with hg; omega⟩
      clear ey by0 hwin3 hk3 ho3
      refine ⟨?_⟩
      refine wpList_append_ran rfl _ _ hr3 rfl rfl rfl ?_
      clear hr3
      go_wp2_with fail
      go_roundw
      case rel => exact ⟨k + 1, by omega, by go_num, HW3, HE3, HB3⟩
      case measure => simp [intOf]; omega
    · go_wp2_with fail
      go_ret2
      obtain rfl : k = N.l.length := by omega
      exact ⟨_, rfl, by rw [HON.out]; exact hwin.out, he.out⟩
set_option maxHeartbeats 2000000 in
theorem ron_link {A : Nat → Prop} (w : World) (v : Value) (N : NA) (f t : Int) (h : RefV w A v N) (hf : N.endB f = true) (ht : N.endB t = true) (he64 : N.ends ≤ 64) (hl : N.l.length ≤ 4096) (hA : ∀ k, A k → k < w.heap.size) :
    Calls Try.prog 20 #[v, .int .i64 f, .int .i64 t] w fun e w' => ∃ v', e = .returned (.tuple #[v', .int .i64 0]) ∧ Win w' w.heap.size 1 v' (N.on f t).length ((N.on f t).map intV) ∧ Ext w w' := by
  obtain ⟨a, c, a', c', rfl, hp, hq⟩ := h.args
  have HP := Lib.hid hp
  have HA := Lib.hid hA
  have hf0 := ((endB_iff N f).1 hf).1
  have hfm : (f == -1) = false := beq_eq_false_iff_ne.2 (by omega)
  have HH : Hid (∀ p : Pc, NA.hit f t p = (p.src == f && p.dst == t)) := Lib.hid (fun p => by unfold NA.hit; rw [hfm]; rfl)
  have HF := Lib.hid hf
  have HT := Lib.hid ht
  clear h hp hq hf ht hA
  go_enter Try.func20, Try.ntmps20
  go_wp2_with fail
  have bx0 := (Box.new w 41 [.int .i64 (N.ends : Int), .int .i64 (N.most : Int), .int .i64 (N.came : Int), .slice a N.l.length c, .slice a' N.downs.length c'])
  have ex : Ext w (w.alloc (Obj.cells #[.int .i64 (N.ends : Int), .int .i64 (N.most : Int), .int .i64 (N.came : Int), .slice a N.l.length c, .slice a' N.downs.length c'] 41)) := ((Keeps.refl NoB w).alloc _)
  have sx : (w.alloc (Obj.cells #[.int .i64 (N.ends : Int), .int .i64 (N.most : Int), .int .i64 (N.came : Int), .slice a N.l.length c, .slice a' N.downs.length c'] 41)).heap.size = w.heap.size + 1 := by simp
  generalize (w.alloc (Obj.cells #[.int .i64 (N.ends : Int), .int .i64 (N.most : Int), .int .i64 (N.came : Int), .slice a N.l.length c, .slice a' N.downs.length c'] 41)) = w0 at bx0 ex sx ⊢
  have Sx := Lib.hid sx
  clear sx
  have HE := Lib.hid ex
  have BX := Lib.hid bx0
  clear ex bx0
  refine (rend_any w0 N _ _ f ⟨_, _, _, _, _, _, rfl, rfl⟩ he64).mono ?_
  rintro e w1 ⟨rfl, hE⟩
  replace HE := Lib.hid (HE.out.ext hE)
  replace BX := Lib.hid (BX.out.ext hE)
  clear hE
  rw [HF.out]
  obtain ⟨cBX, zBX⟩ := BX.out.reads
  have lBX := BX.out.lt
  go_wp2_with fail
  refine (rend_any w1 N _ _ t ⟨_, _, _, _, _, _, rfl, rfl⟩ he64).mono ?_
  rintro e w2 ⟨rfl, hE⟩
  clear cBX zBX lBX
  replace HE := Lib.hid (HE.out.ext hE)
  replace BX := Lib.hid (BX.out.ext hE)
  clear hE
  rw [HT.out]
  go_wp2_with fail
  go_loopw [9, 10] (fun o i wr => ∃ k : Nat, k ≤ N.l.length ∧ i = .int .i64 k ∧ Hid (Win wr w.heap.size 1 o (onTo f t N.l k).length ((onTo f t N.l k).map intV)) ∧ Hid (Ext w wr) ∧ Hid (Box wr w.heap.size 41 [.int .i64 (N.ends : Int), .int .i64 (N.most : Int), .int .i64 (N.came : Int), .slice a N.l.length c, .slice a' N.downs.length c'] ∧ ∀ g, o.ownBlock = some g → g ≠ w.heap.size)) (fun _ i _ => N.l.length - (intOf i).toNat)
  case atStart => exact ⟨0, Nat.zero_le _, rfl, Lib.hid (Win.nil _ _ _), HE, Lib.hid ⟨BX.out, fun g hg => by simp [Value.ownBlock] at hg⟩⟩
  case round =>
    obtain ⟨k, hk, rfl, hwin, he, hbr⟩ := hrel
    have HBr := Lib.hid hbr.out.1
    have HNo := Lib.hid hbr.out.2
    have hwr := he.out.size
    have hwb := hbr.out.1.lt
    clear hbr
    obtain ⟨cHBr, zHBr⟩ := HBr.out.reads
    have lHBr := HBr.out.lt
    by_cases hlt : k < N.l.length
    · obtain ⟨-, hat⟩ := (HP.out.ext he.out).at
      obtain ⟨b, o1, rfl, hc, hAb, hpar⟩ := hat k hlt
      have hbl : b < wr.heap.size := Nat.lt_of_lt_of_le (HA.out b hAb) hwr
      have hs := onTo_succ f t N.l k hlt
      have hle := onTo_le f t N.l k
      rw [HH.out] at hs
      generalize N.l[k] = p at hs hpar
      obtain ⟨i0, i1, i2, a3, n3, i3, i4⟩ := hpar.reads
      clear hat hpar i4 i3 i0
      cases h1 : (p.src == f)
      · rw [h1] at hs
        simp only [Bool.false_and, Bool.false_eq_true, if_false, List.append_nil] at hs
        have HS := Lib.hid hs
        clear hs
        go_wp2_with fail
        go_roundw
        case rel => exact ⟨k + 1, by omega, by go_num, by rw [HS.out]; exact hwin, he, Lib.hid ⟨HBr.out, HNo.out⟩⟩
        case measure => simp [intOf]; omega
      cases h2 : (p.dst == t)
      · rw [h1, h2] at hs
        simp only [Bool.and_false, Bool.false_eq_true, if_false, List.append_nil] at hs
        have HS := Lib.hid hs
        clear hs
        go_wp2_with fail
        go_roundw
        case rel => exact ⟨k + 1, by omega, by go_num, by rw [HS.out]; exact hwin, he, Lib.hid ⟨HBr.out, HNo.out⟩⟩
        case measure => simp [intOf]; omega
      rw [h1, h2] at hs
      simp only [Bool.and_self, if_true] at hs
      have HS := Lib.hid hs
      clear hs
      go_wp2_with (at_builtin; refine standing ?_)
      have by0 := (Box.new wr 3 [.int .i64 (k : Int)])
      have ey : Ext wr (wr.alloc (Obj.cells #[.int .i64 (k : Int)] 3)) := ((Keeps.refl NoB wr).alloc _)
      have sy : (wr.alloc (Obj.cells #[.int .i64 (k : Int)] 3)).heap.size = wr.heap.size + 1 := by simp
      generalize (wr.alloc (Obj.cells #[.int .i64 (k : Int)] 3)) = w2 at by0 ey sy ⊢
      have Sy := Lib.hid sy
      clear sy
      have h2 := ey.size
      obtain ⟨v3, w3, hr3, hwin3, hk3, ho3⟩ := append_int w2 w.heap.size _ (onTo f t N.l k) 53 (hwin.out.ext ey) k wr.heap.size by0 (by omega) (by omega)
      rw [← HS.out] at hwin3
      have HW3 := Lib.hid hwin3
      have HE3 : Hid (Ext w w3) := Lib.hid ((he.out.ext ey).then hk3 (fun i hi h => by have := hwin.out.block i h; omega))
      have HB3 : Hid (Box w3 w.heap.size _ _ ∧ ∀ g, v3.ownBlock = some g → g ≠ w.heap.size) := Lib.hid ⟨(HBr.out.ext ey).keeps hk3 (fun h => HNo.out _ h rfl), fun g hg => by
        rcases ho3 with h | h
        · exact HNo.out g (h.symm.trans hg)
        · rw [h] at hg; injection hg with hg; omega⟩
      clear ey by0 hwin3 hk3 ho3
      refine ⟨?_⟩
      refine wpList_append_ran rfl _ _ hr3 rfl rfl rfl ?_
      clear hr3
      go_wp2_with fail
      go_roundw
      case rel => exact ⟨k + 1, by omega, by go_num, HW3, HE3, HB3⟩
      case measure => simp [intOf]; omega
    · skip
      go_wp2_with fail
      go_ret2
      obtain rfl : k = N.l.length := by omega
      exact ⟨_, rfl, hwin.out, he.out⟩
theorem ron_any {A : Nat → Prop} (w : World) (v : Value) (N : NA) (f t : Int) (h : RefV w A v N) (hk : N.link f t = true) (he64 : N.ends ≤ 64) (hl : N.l.length ≤ 4096) (hA : ∀ k, A k → k < w.heap.size) :
    Calls Try.prog 20 #[v, .int .i64 f, .int .i64 t] w fun e w' => ∃ v', e = .returned (.tuple #[v', .int .i64 0]) ∧ Win w' w.heap.size 1 v' (N.on f t).length ((N.on f t).map intV) ∧ Ext w w' := by
  unfold NA.link at hk
  rw [Bool.or_eq_true, Bool.and_eq_true, Bool.and_eq_true, beq_iff_eq, beq_iff_eq] at hk
  rcases hk with ⟨hf, ht⟩ | ⟨hf, ht⟩
  · exact ron_all w v N f t h hf ht hl hA
  · exact ron_link w v N f t h hf ht he64 hl hA
theorem rpick_err {A : Nat → Prop} (w : World) (v : Value) (N : NA) (f t p : Int) (h : RefV w A v N) (he64 : N.ends ≤ 64) (hl : N.l.length ≤ 4096) (hA : ∀ k, A k → k < w.heap.size) (k : Nat) (hk : N.pickErr f t = k) (h0 : k ≠ 0) :
    Calls Try.prog 63 #[v, .int .i64 f, .int .i64 t, .int .i64 p] w fun e w' => e = .returned (.tuple #[.int .i64 0, .int .i64 (k : Int)]) ∧ Ext w w' := by
  have HV := Lib.hid h
  have HA := Lib.hid hA
  obtain ⟨a, c, a', c', rfl, hp, hq⟩ := h.args
  unfold NA.pickErr at hk
  clear h hp hq hA
  have e0 : Ext w (w.alloc (Obj.cells #[.int .i64 (N.ends : Int), .int .i64 (N.most : Int), .int .i64 (N.came : Int), .slice a N.l.length c, .slice a' N.downs.length c'] 41)) := (Keeps.refl _ _).alloc _
  have HE := Lib.hid e0
  clear e0
  cases h1 : N.link f t with
  | false =>
    rw [if_pos h1] at hk
    subst hk
    clear h0
    have H1 := Lib.hid h1
    clear h1
    go_enter Try.func63, Try.ntmps63
    go_wp2_with fail
    refine (ron_arg _ _ N f t (HV.out.ext HE.out) H1.out he64).mono ?_
    rintro e w1 ⟨rfl, hE⟩
    have HE1 := Lib.hid (HE.out.ext hE)
    clear hE
    go_wp2_with fail
    go_ret2
    exact ⟨rfl, HE1.out⟩
  | true =>
    rw [if_neg (by rw [h1]; simp)] at hk
    by_cases h2 : N.on f t = []
    · rw [if_pos h2] at hk
      subst hk
      have H1 := Lib.hid h1
      have H2 := Lib.hid h2
      clear h1 h2 h0
      go_enter Try.func63, Try.ntmps63
      go_wp2_with fail
      refine (ron_any _ _ N f t (HV.out.ext HE.out) H1.out he64 hl (fun k hk => Nat.lt_of_lt_of_le (HA.out k hk) HE.out.size)).mono ?_
      rintro e w1 ⟨v', rfl, hwin, hE⟩
      rw [H2.out] at hwin
      obtain ⟨a3, c3, rfl⟩ := hwin.len
      simp only [List.length_nil]
      have HE1 := Lib.hid (HE.out.ext hE)
      clear hE hwin
      go_wp2_with fail
      go_ret2
      exact ⟨rfl, HE1.out⟩
    · rw [if_neg h2] at hk
      exact absurd hk.symm h0
set_option maxHeartbeats 1000000 in
theorem rpick_ok {A : Nat → Prop} (w : World) (v : Value) (N : NA) (f t p : Int) (h : RefV w A v N) (he64 : N.ends ≤ 64) (hl : N.l.length ≤ 4096) (hA : ∀ k, A k → k < w.heap.size) (hp : I64 p) (hk : N.pickErr f t = 0) :
    Calls Try.prog 63 #[v, .int .i64 f, .int .i64 t, .int .i64 p] w fun e w' => e = .returned (.tuple #[.int .i64 (N.iOf f t p : Nat), .int .i64 0]) ∧ Ext w w' := by
  obtain ⟨h1, h2⟩ := NA.pick_zero hk
  have HV := Lib.hid h
  have HA := Lib.hid hA
  have H1 := Lib.hid h1
  have H2 := Lib.hid h2
  obtain ⟨a, c, a', c', rfl, hp', hq⟩ := h.args
  obtain ⟨L, hL⟩ : ∃ L, N.on f t = L := ⟨_, rfl⟩
  have hL4 : L.length ≤ 4096 := by have := N.on_le f t; rw [hL] at this; omega
  have HL := Lib.hid hL
  clear h hp' hq hA hk h1 h2 hL
  have e0 : Ext w (w.alloc (Obj.cells #[.int .i64 (N.ends : Int), .int .i64 (N.most : Int), .int .i64 (N.came : Int), .slice a N.l.length c, .slice a' N.downs.length c'] 41)) := (Keeps.refl _ _).alloc _
  have HE := Lib.hid e0
  clear e0
  go_enter Try.func63, Try.ntmps63
  go_wp2_with fail
  refine (ron_any _ _ N f t (HV.out.ext HE.out) H1.out he64 hl (fun k hk => Nat.lt_of_lt_of_le (HA.out k hk) HE.out.size)).mono ?_
  rintro e w3 ⟨v', rfl, hwin, hE⟩
  rw [HL.out] at hwin
  have HE03 := Lib.hid (HE.out.ext hE)
  have HW := Lib.hid hwin
  clear hE hwin
  have hl0 : 0 < L.length := List.length_pos_iff.2 (by rw [← HL.out]; exact H2.out)
  have hz : ((L.length : Int) == 0) = false := beq_eq_false_iff_ne.2 (by omega)
  obtain ⟨g, o, cap, rfl, hg1, hg2, hg3, hg4⟩ := HW.out.form hl0
  unfold I64 at hp
  have h1 := Int.emod_nonneg p (show (L.length : Int) ≠ 0 by omega)
  have h2 := Int.emod_lt_of_pos p (show 0 < (L.length : Int) by omega)
  have hlo : -(L.length : Int) < p.tmod L.length := by
    have := Int.tmod_lt_of_pos (-p) (show 0 < (L.length : Int) by omega)
    rw [Int.neg_tmod] at this; omega
  have hhi := Int.tmod_lt_of_pos p (show 0 < (L.length : Int) by omega)
  have hem : p % (L.length : Int) = if p.tmod L.length < 0 then p.tmod L.length + L.length else p.tmod L.length := by
    have h3 : p.tmod L.length % L.length = p % L.length := by
      rw [Int.tmod_eq_emod]
      split
      · simp
      · rw [Int.natAbs_of_nonneg (by omega)]; simp
    rw [← h3]
    split
    · rename_i hneg
      rw [← Int.add_emod_right, Int.emod_eq_of_lt (by omega) (by omega)]
    · rw [Int.emod_eq_of_lt (by omega) (by omega)]
  obtain ⟨x, hx⟩ : ∃ x, p.tmod (L.length : Int) = x := ⟨_, rfl⟩
  obtain ⟨j, hj⟩ : ∃ j : Nat, p % (L.length : Int) = j := ⟨(p % (L.length : Int)).toNat, (Int.toNat_of_nonneg h1).symm⟩
  rw [hj] at h1 h2 hem
  rw [hx] at hlo hhi hem
  have hpk : N.iOf f t p = L.getD j 0 := by unfold NA.iOf pickOf; rw [HL.out, hj, Int.toNat_natCast]
  have hcj := hg4 j (intV (L.getD j 0)) (by
    rw [List.getElem?_map, List.getElem?_eq_getElem (show j < L.length by omega), List.getD_eq_getElem?_getD, List.getElem?_eq_getElem (show j < L.length by omega)]
    rfl)
  unfold intV at hcj
  have HPK := Lib.hid hpk
  have hjl : (j : Int) < (L.length : Int) := h2
  clear hg4 hj hpk
  by_cases hneg : x < 0
  · rw [if_pos hneg] at hem
    have hem2 : x + (L.length : Int) = (j : Int) := hem.symm
    clear hem
    go_wp2_with fail
    go_ret2
    exact ⟨by rw [HPK.out]; rfl, HE03.out⟩
  · rw [if_neg hneg] at hem
    subst hem
    go_wp2_with fail
    go_ret2
    exact ⟨by rw [HPK.out]; rfl, HE03.out⟩
end Go.Proofs.Ytdiogipdcpiffaa
