/- What Len, Room and Clear tell. Conditions: the ring is laid out as 'RingAt' says. -/
import Derived.Test.YtocjnieehogcbaaRingG
set_option linter.unusedVariables false
set_option maxHeartbeats 400000
namespace Go.Proofs.Ytocjnieehogcbaa
open Go.RowKit
attribute [local go_sem] Oper.semAt_some

def sides (l : List It) : Nat := (l.filter fun x => x.side).length
def mains (l : List It) : Nat := (l.filter fun x => !x.side).length
theorem sides_le (l : List It) : sides l ≤ l.length := List.length_filter_le _ _
theorem mains_le (l : List It) : mains l ≤ l.length := List.length_filter_le _ _
theorem sides_succ (l : List It) (k : Nat) (h : k < l.length) : sides (l.take (k + 1)) = sides (l.take k) + if l[k].side then 1 else 0 := by
  unfold sides
  rw [List.take_succ_eq_append_getElem h, List.filter_append, List.length_append]
  cases hs : l[k].side <;> simp [hs]
theorem mains_succ (l : List It) (k : Nat) (h : k < l.length) : mains (l.take (k + 1)) = mains (l.take k) + if l[k].side then 0 else 1 := by
  unfold mains
  rw [List.take_succ_eq_append_getElem h, List.filter_append, List.length_append]
  cases hs : l[k].side <;> simp [hs]

def LenPost (w : World) (l : List It) (e : Ending) (w' : World) : Prop := e = .returned (.tuple #[.int .i64 (mains l : Nat), .int .i64 (sides l : Nat)]) ∧ Ext w w'

set_option maxHeartbeats 2000000 in
theorem len_seq (w : World) (p : Option Addr) (l : List It) (hl : l.length ≤ 1000) (hx : ∀ x ∈ l, x.bytes.length ≤ 1000000)
    (hall : ∀ W, Ext w W → Calls Try.prog 19 #[.pointer p] W fun e W' =>
      e = .returned (.func (.func 41) #[] #[.pointer (some ⟨W.heap.size, 0, none⟩)]) ∧ SeqAt W' (fun k => W.heap.size ≤ k ∧ k < W'.heap.size) W.heap.size l ∧ Ext W W') :
    Calls Try.prog 14 #[.pointer p] w (LenPost w l) := by
  refine (callsIn_wide (n := 9)).1 (callsIn_of_wp_marks Try.func14 rfl trivial ?_ rfl)
  simp only [Try.ntmps14, List.size_toArray, List.length_cons, List.length_nil, Nat.reduceAdd, Nat.reduceSub, Array.replicate_succ, Array.replicate_zero, List.push_toArray, List.append_toArray, List.nil_append, List.cons_append]
  have HA := Lib.hid hall
  have HX := Lib.hid hx
  clear hall hx
  gi_wp2_with fail
  have ba0 := ((Box.new w 3 [.int .i64 0]).alloc (Obj.cells #[.int .i64 0] 3))
  have ba1 := (Box.new (w.alloc (Obj.cells #[.int .i64 0] 3)) 3 [.int .i64 0])
  have ea : Ext w ((w.alloc (Obj.cells #[.int .i64 0] 3)).alloc (Obj.cells #[.int .i64 0] 3)) := (((Keeps.refl NoB w).alloc _).alloc _)
  have sa : ((w.alloc (Obj.cells #[.int .i64 0] 3)).alloc (Obj.cells #[.int .i64 0] 3)).heap.size = w.heap.size + 2 := by simp
  simp only [World.size_alloc] at ba1
  generalize ((w.alloc (Obj.cells #[.int .i64 0] 3)).alloc (Obj.cells #[.int .i64 0] 3)) = w0 at ba0 ba1 ea sa ⊢
  have Sa := Lib.hid sa
  clear sa
  have HEa := Lib.hid ea
  have BA := Lib.hid ba0
  have BB := Lib.hid ba1
  clear ea ba0 ba1
  refine ⟨trivial, callsIn_wide.2 ((HA.out w0 HEa.out).mono ?_)⟩
  rintro e w1 ⟨rfl, hs, hE1⟩
  have HS := Lib.hid hs
  have HE1 := Lib.hid hE1
  have B0 := Lib.hid (BA.out.ext hE1)
  have B1 := Lib.hid (BB.out.ext hE1)
  have hsz1 := hE1.size
  clear hs hE1
  gi_wp2_with fail
  have hsz := Sa.out
  refine wpIn_range rfl (by omega) (gf := 41) (lb := #[.pointer (some ⟨w0.heap.size, 0, none⟩)]) rfl trivial (enters_of Try.func41 (by kernel_rfl) rfl)
    (S := fun b => b = w.heap.size ∨ b = w.heap.size + 1) (iter_ring w1 w0.heap.size l HS.out (by omega) (fun k h1 h2 => by omega) HX.out hl) (by rintro x v W0 W ⟨bv, rfl, _⟩; rfl)
    (fun k W => Keeps (fun b => b = w.heap.size ∨ b = w.heap.size + 1) w1 W ∧ Box W w.heap.size 3 [.int .i64 (mains (l.take k) : Nat)] ∧ Box W (w.heap.size + 1) 3 [.int .i64 (sides (l.take k) : Nat)])
    (fun _ _ _ => False) (fun k W h => h.1)
    (fun k W W' h hk => ⟨h.1.then hk (fun i hi h => by unfold OneB at h; omega), h.2.1.keeps hk (by unfold OneB; omega), h.2.2.keeps hk (by unfold OneB; omega)⟩)
    (fun _ _ _ _ h _ => h) ⟨Keeps.refl _ _, by simpa [mains] using B0.out, by simpa [sides] using B1.out⟩ ?_ ?_ (fun _ _ _ _ h _ => h.elim)
  · rintro k hk v W0 W - hE0 ⟨hkW, hb0, hb1⟩ ⟨bv, rfl, hbv, hwr, hn⟩ hlt0 hlt
    obtain ⟨a, c, rfl⟩ := hbv.len
    have HKW := Lib.hid hkW
    have HB0 := Lib.hid hb0
    have HB1 := Lib.hid hb1
    clear hkW hb0 hb1 hbv hwr hE0
    gi_wp2_with fail
    refine ⟨(Keeps.refl _ _).alloc _, fun W2 hW2 => ?_⟩
    have bx := (Box.new W 31 [.bool l[k].side, .int .i64 l[k].key, .slice a l[k].bytes.length c]).keeps hW2 (by unfold OneB; omega)
    have b0 := (HB0.out.alloc (Obj.cells #[.bool l[k].side, .int .i64 l[k].key, .slice a l[k].bytes.length c] 31)).keeps hW2 (by unfold OneB; omega)
    have b1 := (HB1.out.alloc (Obj.cells #[.bool l[k].side, .int .i64 l[k].key, .slice a l[k].bytes.length c] 31)).keeps hW2 (by unfold OneB; omega)
    have hkW2 : Keeps (fun b => b = w.heap.size ∨ b = w.heap.size + 1) w1 W2 := (HKW.out.alloc _).then hW2 (fun i hi h => by unfold OneB at h; omega)
    obtain ⟨cx, zx⟩ := bx.reads
    obtain ⟨c0, z0⟩ := b0.reads
    obtain ⟨c1, z1⟩ := b1.reads
    have lx := bx.lt
    have l0 := b0.lt
    have l1 := b1.lt
    have hms := mains_succ l k hk
    have hss := sides_succ l k hk
    have hm1 := mains_le (l.take k)
    have hm2 := sides_le (l.take k)
    have hlk : (l.take k).length ≤ k := List.length_take_le _ _
    cases hsd : l[k].side with
    | true =>
      rw [hsd] at cx hms hss
      have HM := Lib.hid hms
      have HS2 := Lib.hid hss
      have HK2 := Lib.hid hkW2
      have C0 := Lib.hid b0
      have C1 := Lib.hid b1
      clear hms hss hkW2 b0 b1 bx hW2 hsd hsz
      gi_wp2_with fail
      refine ⟨(Keeps.refl _ _).setCell _ _ (.inl (.inl ⟨by show w.heap.size + 1 < _; have := Sa.out; omega, .inr rfl⟩)), HK2.out.setCell _ _ (.inl (.inr rfl)), ?_, ?_⟩
      · rw [HM.out]; exact C0.out.other _ _ (by show w.heap.size ≠ w.heap.size + 1; omega)
      · rw [HS2.out]; exact C1.out.set 0 _
    | false =>
      rw [hsd] at cx hms hss
      have HM := Lib.hid hms
      have HS2 := Lib.hid hss
      have HK2 := Lib.hid hkW2
      have C0 := Lib.hid b0
      have C1 := Lib.hid b1
      clear hms hss hkW2 b0 b1 bx hW2 hsd hsz
      gi_wp2_with fail
      refine ⟨(Keeps.refl _ _).setCell _ _ (.inl (.inl ⟨by show w.heap.size < _; have := Sa.out; omega, .inl rfl⟩)), HK2.out.setCell _ _ (.inl (.inl rfl)), ?_, ?_⟩
      · rw [HM.out]; exact C0.out.set 0 _
      · rw [HS2.out]; exact C1.out.other _ _ (by show w.heap.size + 1 ≠ w.heap.size; omega)
  · rintro W ⟨hkW, hb0, hb1⟩ hm
    rw [List.take_of_length_le (Nat.le_refl _)] at hb0 hb1
    obtain ⟨c0, z0⟩ := hb0.reads
    obtain ⟨c1, z1⟩ := hb1.reads
    have l0 := hb0.lt
    have l1 := hb1.lt
    have HK := Lib.hid hkW
    have HM := Lib.hid hm
    have C0 := Lib.hid hb0
    have C1 := Lib.hid hb1
    clear hkW hb0 hb1 hm hsz
    gi_wp2_with fail
    refine wpIn_wide.2 (wp_region_noPanic ?_)
    have hE0 : Keeps (OneB w.heap.size) W W.drew := (Keeps.refl _ _).drew
    refine wp_region_plan [(3, 0), (1, 1), (2, 2)] [1] [2, 3] [3] (ClsK (OneB w.heap.size) W) (by kernel_rfl) (by kernel_rfl) (by kernel_rfl) rfl rfl (ClsK.of hE0) (fun _ _ _ _ _ h => h) ?_; simp only [planL, List.getElem?_toArray, List.getElem?_cons_succ, List.getElem?_cons_zero]
    refine plan_exact rfl (fun K hK => quiet_runX (v := ?_) ?_ (hK _ ?_)); rotate_left; (go_simp <;> with_reducible rfl); clear hK K; simp only [Act.put, List.setIfInBounds_toArray, List.set_cons_zero, List.set_cons_succ]
    refine plan_load rfl (fun K hK => quiet_runK (v := ?_) (fun W => ?_) (hK _ ?_)); rotate_left; (go_simp <;> with_reducible rfl); clear hK K; simp only [Act.put, List.setIfInBounds_toArray, List.set_cons_zero, List.set_cons_succ]
    refine plan_does rfl (fun K hK => ?_)
    go_wp2_with fail
    refine ⟨ClsK.of (by repeat (first | assumption | exact Keeps.refl _ _ | refine Keeps.setOne ?_ _ _ | refine Keeps.setCell ?_ _ _ (.inl (by first | rfl | exact .inl rfl | exact .inr rfl | omega)) | refine Keeps.drew ?_)), ?_⟩; try simp only [Act.put]
    refine plan_nil ?_; simp only [tailL, List.filterMap_cons, List.filterMap_nil, List.getElem?_toArray, List.getElem?_cons_succ, List.getElem?_cons_zero]; change wpList _ _ _ (_ :: []) _ _
    go_wp2_with fail
    refine NoPanic.ok ?_
    gi_wp2
    have hsz := Sa.out
    refine leaves_marks [w1.heap.size] _ (by simp) ?_ ?_
    · intro D hD
      obtain rfl : D = w1.heap.size := by simpa using hD
      refine (HM.out.keeps (S := fun b => b = w.heap.size ∨ b = w.heap.size + 1) ?_ (by omega))
      repeat (first | exact Keeps.refl _ _ | refine Keeps.drew ?_ | refine Keeps.setCell ?_ _ _ (.inl (.inl rfl)) | refine Keeps.setCell ?_ _ _ (.inl (.inr rfl)))
    · intro w' hk
      have q0 : Box w' w.heap.size 3 [.int .i64 (mains l : Nat)] := by
        refine Box.keeps (w := _) ?_ hk (by simp; omega)
        exact ((C0.out.set 0 (.int .i64 (mains l : Nat))).other _ _ (by show w.heap.size ≠ w.heap.size + 1; omega)).drew
      have q1 : Box w' (w.heap.size + 1) 3 [.int .i64 (sides l : Nat)] := by
        refine Box.keeps (w := _) ?_ hk (by simp; omega)
        exact ((C1.out.other _ _ (by show w.heap.size + 1 ≠ w.heap.size; omega)).set 0 (.int .i64 (sides l : Nat))).drew
      refine ⟨.tuple #[.int .i64 (mains l : Nat), .int .i64 (sides l : Nat)], ?_, rfl, ?_⟩
      · simp [results, Try.results14, go_sem, q0.reads.1, q1.reads.1]
      · have h1 : Keeps (fun b => b = w.heap.size ∨ b = w.heap.size + 1) w1 (((W.setCell ⟨w.heap.size, 0, none⟩ (.int .i64 (mains l : Nat))).setCell ⟨w.heap.size + 1, 0, none⟩ (.int .i64 (sides l : Nat))).drew) := by
          have := HK.out
          repeat (first | exact this | refine Keeps.drew ?_ | refine Keeps.setCell ?_ _ _ (.inl (.inl rfl)) | refine Keeps.setCell ?_ _ _ (.inl (.inr rfl)))
        have h2 := (HEa.out.ext HE1.out).then h1 (fun i hi h => by omega)
        exact h2.then hk (fun i hi h => by simp at h; omega)

theorem len_ring {A : Nat → Prop} (w : World) (b f : Nat) (R : AR) (h : RingAt w A b f R) (hx : ∀ x ∈ R.items, x.bytes.length ≤ 1000000) :
    Calls Try.prog 14 #[.pointer (some ⟨b, 0, none⟩)] w (LenPost w R.items) :=
  len_seq w _ R.items (by have := h.hl; have := h.hm; omega) hx fun W hW => all_ring W b f R (h.ext hW) hx
theorem len_none (w : World) (p : Option Addr) (h : Nonish w p) :
    Calls Try.prog 14 #[.pointer p] w (LenPost w []) :=
  len_seq w p [] (by simp) (by simp) fun W hW => all_none W p (h.ext hW)

theorem room_ring {A : Nat → Prop} (w : World) (b f : Nat) (R : AR) (h : RingAt w A b f R) (hx : ∀ x ∈ R.items, x.bytes.length ≤ 1000000) :
    Calls Try.prog 17 #[.pointer (some ⟨b, 0, none⟩)] w fun e w' => e = .returned (.int .i64 ((R.most : Int) - (mains R.items : Nat))) ∧ Ext w w' := by
  have hm := h.hm
  have hl := h.hl
  have hmi := mains_le R.items
  have HR := Lib.hid h
  have HX := Lib.hid hx
  clear h hx
  go_enter Try.func17, Try.ntmps17
  go_wp2_with fail
  refine (none_ring HR.out).mono ?_
  rintro e w' ⟨rfl, rfl⟩
  go_wp2_with fail
  refine (len_ring w b f R HR.out HX.out).mono ?_
  rintro e w1 ⟨rfl, hE⟩
  have k3 := (HR.out.ext hE).c3
  have HE := Lib.hid hE
  clear hE
  go_wp2
  go_ret
  exact ⟨rfl, HE.out⟩
theorem room_none (w : World) (p : Option Addr) (h : Nonish w p) :
    Calls Try.prog 17 #[.pointer p] w fun e w' => e = .returned (.int .i64 0) ∧ w = w' := by
  have H := Lib.hid h
  clear h
  go_enter Try.func17, Try.ntmps17
  go_wp2_with fail
  refine (none_none _ _ H.out).mono ?_
  rintro e w' ⟨rfl, rfl⟩
  go_wp2
  go_ret
  exact ⟨rfl, rfl⟩

theorem clear_ring {A : Nat → Prop} (w : World) (b f m l : Nat) (its : List It) (h : RingAt w A b f ⟨m, l, its⟩) (hA : ¬ A b) (hAl : ∀ k, A k → k < w.heap.size) :
    Calls Try.prog 13 #[.pointer (some ⟨b, 0, none⟩)] w fun e w' =>
      e = .returned (.int .i64 (its.length : Nat)) ∧ (∃ f', RingAt w' A b f' ⟨m, l, []⟩) ∧ Keeps (OneB b) w w' := by
  have hm : m ≤ 64 := h.hm
  have hl : its.length ≤ m := h.hl
  have HR := Lib.hid h
  have HA := Lib.hid hAl
  clear h hAl
  go_enter Try.func13, Try.ntmps13
  go_wp2_with fail
  go_loopw [2] (fun t wr => ∃ k : Nat, k ≤ its.length ∧ t = .int .i64 k ∧ Hid (∃ f', RingAt wr A b f' ⟨m, l, its.drop k⟩ ∧ Keeps (OneB b) w wr)) (fun t _ => its.length - (intOf t).toNat)
  case atStart => exact ⟨0, by omega, rfl, f, by simpa using HR.out, Keeps.refl _ _⟩
  case round =>
    obtain ⟨k, hk, rfl, hh⟩ := hrel
    obtain ⟨f', hr, hkp⟩ := hh.out
    have HK := Lib.hid hkp
    by_cases hlt : k < its.length
    · rw [List.drop_eq_getElem_cons hlt] at hr
      have HR1 := Lib.hid hr
      clear hr hkp hh
      go_wp2_with fail
      refine (take_ring wr b f' m l _ _ HR1.out hA (fun k hk => Nat.lt_of_lt_of_le (HA.out k hk) HK.out.size)).mono ?_
      rintro e w1 ⟨v, rfl, ⟨bv, rfl, hbv⟩, hr1, hk1⟩
      obtain ⟨a, c, rfl⟩ := hbv.len
      have hb1 := hr1.lt
      have HR2 := Lib.hid hr1
      have HK1 := Lib.hid (HK.out.trans hk1)
      have HAw : Hid (∀ k, A k → k < w1.heap.size) := fun k hk => Nat.lt_of_lt_of_le (HA.out k hk) (Nat.le_trans HK.out.size hk1.size)
      clear hbv hr1 hk1
      go_wp2_with fail
      go_roundw
      case rel =>
        refine ⟨k + 1, by omega, by go_num, (f' + 1) % m, ?_, ?_⟩
        · exact HR2.out.ext ((Keeps.refl _ _).alloc _)
        · exact HK1.out.alloc _
      case measure => simp [intOf]; omega
    · rw [List.drop_eq_nil_of_le (by omega)] at hr
      have hkl : k = its.length := by omega
      have HKL := Lib.hid hkl
      have HR1 := Lib.hid hr
      clear hr hkp hh hkl
      go_wp2_with fail
      refine (take_empty wr b f' m l HR1.out).mono ?_
      rintro e w1 ⟨rfl, hE⟩
      have HE := Lib.hid hE
      clear hE
      go_wp2_with fail
      go_ret
      refine ⟨by rw [← HKL.out]; rfl, ⟨f', HR1.out.ext (HE.out.alloc _)⟩, HK.out.ext (HE.out.alloc _)⟩
end Go.Proofs.Ytocjnieehogcbaa
