/- Copy of a ring; which rings of the document are the same. Conditions: they lie as 'RingX' and 'RefX' say. -/
import Derived.Test.YtocjnieehogcbaaCopy
import Derived.BigFrameIn
import Derived.RegionTactic
set_option linter.unusedVariables false
set_option maxHeartbeats 400000
namespace Go.Proofs.Ytocjnieehogcbaa
open Go.RowKit
attribute [local go_sem] Oper.semAt_some

theorem push_x {N B : Nat → Prop} (w : World) (b : Nat) (R : AR) (x : It) (v : Value) (h : RingX w N b R) (hv : ItemV w B v x) (hN : ∀ k, N k → k < w.heap.size) (hx : x.bytes.length ≤ 1000000) (hroom : R.items.length < R.most) :
    Calls Try.prog 37 #[.pointer (some ⟨b, 0, none⟩), v] w fun e w' => e = .returned noResult ∧ RingX w' N b { R with items := R.items ++ [x] } ∧ Keeps (OneB b) w w' := by
  obtain ⟨f, A, h1, h2, h3⟩ := h
  refine (push_ring w b f R x v h1 h2 hv hx hroom).mono ?_
  rintro e w' ⟨he, hr, hk⟩
  refine ⟨he, ⟨f, _, hr, fun hb => ?_, fun k hk' => ?_⟩, hk⟩
  · rcases hb with hb | hb
    · exact h2 hb
    · have := h1.lt; omega
  · rcases hk' with hk' | hk'
    · exact ⟨Nat.lt_of_lt_of_le (h3 k hk').1 hk.size, (h3 k hk').2⟩
    · exact ⟨hk'.2, fun hn => by have := hN k hn; omega⟩

theorem ringZero_at (w : World) (m l : Nat) (h1 : 1 ≤ m) (h2 : m ≤ 64) (C : Array Value) (hs : C.size = 196) (c0 : C[0]? = some (.int .i64 0)) (c1 : C[1]? = some (.int .i64 0)) (c2 : C[2]? = some (.int .i64 (l : Int))) (c3 : C[3]? = some (.int .i64 (m : Int))) (t : TypeId) :
    RingAt (w.alloc (.cells C t)) (fun _ => False) w.heap.size 0 ⟨m, l, []⟩ := by
  refine ⟨fun o => by simp [World.frozen?_alloc_new], fun o ho => ?_, ?_, ?_, ?_, ?_, by simp; omega, h2, by simp, fun i hi => by simp at hi⟩
  · simp only [World.cell?_alloc_new]
    exact ⟨_, Array.getElem?_eq_getElem (by simpa [hs] using ho)⟩
  all_goals simp only [World.cell?_alloc_new]
  · exact c0
  · exact c1
  · exact c2
  · exact c3

set_option maxRecDepth 10000 in
set_option maxHeartbeats 2000000 in
theorem copy_x {N N' : Nat → Prop} (w : World) (b : Nat) (R : AR) (h : RingX w N b R) (hx : ∀ x ∈ R.items, x.bytes.length ≤ 1000000) (hN' : ∀ k, N' k → k < w.heap.size) :
    Calls Try.prog 24 #[.pointer (some ⟨b, 0, none⟩)] w fun e w' =>
      ∃ b', e = .returned (.pointer (some ⟨b', 0, none⟩)) ∧ RingX w' N' b' R ∧ w.heap.size ≤ b' ∧ Ext w w' := by
  have HR := Lib.hid h
  have HX := Lib.hid hx
  have HN := Lib.hid hN'
  have hlt := h.lt
  obtain ⟨le1, le2, le3⟩ := h.le
  obtain ⟨f, A, q, -, -⟩ := h
  have c2 := q.c2
  have c3 := q.c3
  have hz : ∀ w, (zeroValue 63).run Try.prog w = .ok (.agg ringZero) w := fun _ => by kernel_rfl
  have hsz := ringZero_size
  clear q hx hN'
  refine (callsIn_wide (n := 9)).1 (callsIn_of_wp_marks Try.func24 rfl trivial ?_ rfl)
  simp only [Try.ntmps24, List.size_toArray, List.length_cons, List.length_nil, Nat.reduceAdd, Nat.reduceSub, Array.replicate_succ, Array.replicate_zero, List.push_toArray, List.append_toArray, List.nil_append, List.cons_append]
  gi_wp2_with fail
  refine ⟨trivial, callsIn_wide.2 ((none_x w b R HR.out).mono ?_)⟩
  rintro e w' ⟨rfl, rfl⟩
  gi_wp2_with fail
  refine wpIn_wide.2 (wp_region_noPanic ?_)
  have hs : ((((ringZero.setIfInBounds 0 (Value.int IntKind.i64 0)).setIfInBounds 1 (Value.int IntKind.i64 0)).setIfInBounds 2 (Value.int IntKind.i64 (R.lost : Int))).setIfInBounds 3 (Value.int IntKind.i64 (R.most : Int))).size = 196 := by simp [hsz]
  have k0 : ((((ringZero.setIfInBounds 0 (Value.int IntKind.i64 0)).setIfInBounds 1 (Value.int IntKind.i64 0)).setIfInBounds 2 (Value.int IntKind.i64 (R.lost : Int))).setIfInBounds 3 (Value.int IntKind.i64 (R.most : Int)))[0]? = some (.int .i64 0) := by simp [hsz]
  have k1 : ((((ringZero.setIfInBounds 0 (Value.int IntKind.i64 0)).setIfInBounds 1 (Value.int IntKind.i64 0)).setIfInBounds 2 (Value.int IntKind.i64 (R.lost : Int))).setIfInBounds 3 (Value.int IntKind.i64 (R.most : Int)))[1]? = some (.int .i64 0) := by simp [hsz]
  have k2 : ((((ringZero.setIfInBounds 0 (Value.int IntKind.i64 0)).setIfInBounds 1 (Value.int IntKind.i64 0)).setIfInBounds 2 (Value.int IntKind.i64 (R.lost : Int))).setIfInBounds 3 (Value.int IntKind.i64 (R.most : Int)))[2]? = some (.int .i64 (R.lost : Int)) := by simp [hsz]
  have k3 : ((((ringZero.setIfInBounds 0 (Value.int IntKind.i64 0)).setIfInBounds 1 (Value.int IntKind.i64 0)).setIfInBounds 2 (Value.int IntKind.i64 (R.lost : Int))).setIfInBounds 3 (Value.int IntKind.i64 (R.most : Int)))[3]? = some (.int .i64 (R.most : Int)) := by simp [hsz]
  have KS := Lib.hid hs
  have K0 := Lib.hid k0
  have K1 := Lib.hid k1
  have K2 := Lib.hid k2
  have K3 := Lib.hid k3
  clear hs k0 k1 k2 k3
  go_region
  · generalize (((ringZero.setIfInBounds 0 (Value.int IntKind.i64 0)).setIfInBounds 1 (Value.int IntKind.i64 0)).setIfInBounds 2 (Value.int IntKind.i64 (R.lost : Int))).setIfInBounds 3 (Value.int IntKind.i64 (R.most : Int)) = C at KS K0 K1 K2 K3 ⊢
    have hq := ringZero_at w R.most R.lost le2 le3 C KS.out K0.out K1.out K2.out K3.out 63
    have hE : Ext w (((w.alloc (Obj.cells C 63)).alloc (Obj.cells #[.pointer (some ⟨w.heap.size, 0, none⟩)] 23)).drew) := (((Keeps.refl _ _).alloc _).alloc _).drew
    have hbp := (Box.new (w.alloc (Obj.cells C 63)) 23 [.pointer (some ⟨w.heap.size, 0, none⟩)]).drew
    have hrx : RingX (((w.alloc (Obj.cells C 63)).alloc (Obj.cells #[.pointer (some ⟨w.heap.size, 0, none⟩)] 23)).drew) N' w.heap.size ⟨R.most, R.lost, []⟩ :=
      ⟨0, fun _ => False, hq.ext (((Keeps.refl _ _).alloc _).drew), id, fun k hk => hk.elim⟩
    simp only [World.size_alloc] at hbp
    generalize ((w.alloc (Obj.cells C 63)).alloc (Obj.cells #[.pointer (some ⟨w.heap.size, 0, none⟩)] 23)).drew = w3 at hE hbp hrx ⊢
    have BP := Lib.hid hbp
    have HQ := Lib.hid hrx
    have HE := Lib.hid hE
    clear hE hbp hrx hq hz hsz
    refine NoPanic.ok ?_
    have hP3 := BP.out
    obtain ⟨c0, z0⟩ := hP3.reads
    have l0 := hP3.lt
    clear hP3
    gi_wp2_with fail
    refine ⟨trivial, callsIn_wide.2 ((all_x w3 b R (HR.out.ext HE.out) HX.out).mono ?_)⟩
    rintro e w4 ⟨rfl, hs, hE⟩
    have HS := Lib.hid hs
    have HE4 := Lib.hid (HE.out.ext hE)
    have BP4 := Lib.hid (BP.out.ext hE)
    have hq3 := HQ.out.lt
    have hlp := BP4.out.lt
    have HQ4 := Lib.hid ((HQ.out.ext hE).grow (w' := w4) (N' := fun k => N' k ∨ k = w4.heap.size ∨ k = w4.heap.size + 1) (Keeps.refl _ _) (fun h => by have := HN.out _ h; omega) (fun k hk => by
      rcases hk with hk | hk
      · exact .inl hk
      · exact .inr (by omega)))
    have h34 := hE.size
    have h03 := HE.out.size
    clear hE hs c0 z0 l0
    gi_wp2_with fail
    refine wpIn_range rfl (by omega) (gf := 41) (lb := #[.pointer (some ⟨w3.heap.size, 0, none⟩)]) rfl trivial (enters_of Try.func41 (by kernel_rfl) rfl)
      (S := OneB (w.heap.size)) (iter_ring w4 w3.heap.size R.items HS.out (by unfold OneB; omega) (fun k h1 h2 => by unfold OneB at h2; omega) HX.out (by omega)) (by rintro x v W0 W ⟨bv, rfl, _⟩; rfl)
      (fun k W => Keeps (OneB (w.heap.size)) w4 W ∧ RingX W (fun k => N' k ∨ k = w4.heap.size ∨ k = w4.heap.size + 1) (w.heap.size) ⟨R.most, R.lost, R.items.take k⟩)
      (fun _ _ _ => False) (fun k W h => h.1)
      (fun k W W' h hk => ⟨h.1.then hk (fun i hi h => by unfold OneB at h ⊢; omega), h.2.keeps hk (fun k hk => .inr (.inr hk)) (by unfold OneB; omega)⟩)
      (fun _ _ _ _ h _ => h) ⟨Keeps.refl _ _, HQ4.out⟩ ?_ ?_ (fun _ _ _ _ h _ => h.elim)
    · rintro k hk v W0 W - hE0 ⟨hkW, hrx⟩ ⟨bv, rfl, hbv, hwr, hn⟩ hlt0 hlt'
      obtain ⟨av, cv, rfl⟩ := hbv.len
      have hx1 := HX.out _ (List.getElem_mem hk)
      have htk : R.items.take (k + 1) = R.items.take k ++ [R.items[k]] := List.take_succ_eq_append_getElem hk
      generalize R.items[k] = y at hbv htk hx1 ⊢
      have HTK := Lib.hid htk
      have HKW := Lib.hid hkW
      have HRX := Lib.hid hrx
      have HBV := Lib.hid hbv
      have hW4 := hkW.size
      clear hkW hrx hbv hwr htk hE0
      gi_wp2_with fail
      refine ⟨(Keeps.refl _ _).alloc _, fun W2 hW2 => ?_⟩
      have bx1 := (Box.new W 31 [.bool y.side, .int .i64 y.key, .slice av y.bytes.length cv]).keeps hW2 (by unfold OneB; omega)
      have bp1 := ((BP4.out.keeps HKW.out (by unfold OneB; omega)).alloc (Obj.cells #[.bool y.side, .int .i64 y.key, .slice av y.bytes.length cv] 31)).keeps hW2 (by unfold OneB; omega)
      have hEW : Keeps (OneB (w4.heap.size + 1)) W W2 := ((Keeps.refl (OneB (w4.heap.size + 1)) W).alloc (Obj.cells #[.bool y.side, .int .i64 y.key, .slice av y.bytes.length cv] 31)).trans hW2
      have HRX2 := Lib.hid (HRX.out.keeps hEW (fun k hk => .inr (.inr hk)) (by unfold OneB; omega))
      have HBV2 := Lib.hid (HBV.out.keeps hEW (fun g hg h2 => by unfold OneB at h2; omega))
      have HK2 := Lib.hid ((HKW.out.alloc (Obj.cells #[.bool y.side, .int .i64 y.key, .slice av y.bytes.length cv] 31)).then hW2 (fun i hi h => by unfold OneB at h; omega))
      have hWW := hEW.size
      have hlk : (R.items.take k).length = k := by rw [List.length_take]; omega
      have HLK := Lib.hid hlk
      obtain ⟨c1, z1⟩ := bx1.reads
      obtain ⟨c2', z2⟩ := bp1.reads
      have l1 := bx1.lt
      have l2 := bp1.lt
      clear bx1 bp1 hW2 hEW hlk
      gi_wp2_with fail
      refine ⟨trivial, calls_inRound ((push_x (N := fun k => N' k ∨ k = w4.heap.size ∨ k = w4.heap.size + 1) W2 _ _ y _ HRX2.out ⟨_, rfl, HBV2.out⟩ (fun k hk => by
        rcases hk with hk | hk
        · have := HN.out k hk; omega
        · omega) hx1 (by dsimp only; rw [HLK.out]; omega)).mono ?_)⟩
      rintro e W3 ⟨rfl, hr3, hk3⟩
      have HR3 := Lib.hid hr3
      have HK3 := Lib.hid hk3
      clear hr3 hk3
      gi_wp2_with fail
      refine ⟨HK3.out.mono (fun k hk h => .inl ⟨by unfold OneB at h; omega, h⟩), HK2.out.trans HK3.out, ?_⟩
      rw [HTK.out]
      exact HR3.out
    · rintro W ⟨hkW, hrx⟩ hm
      rw [List.take_length] at hrx
      have bp := BP4.out.keeps hkW (by unfold OneB; omega)
      obtain ⟨c0, z0⟩ := bp.reads
      have l0 := bp.lt
      have HK := Lib.hid hkW
      have HRX := Lib.hid hrx
      have HM := Lib.hid hm
      clear bp hkW hrx hm
      gi_wp2_with fail
      refine leaves_marks [w4.heap.size] _ (by simp) ?_ ?_
      · intro D hD
        obtain rfl : D = w4.heap.size := by simpa using hD
        exact HM.out
      · intro w' hk
        refine ⟨.pointer (some ⟨w.heap.size, 0, none⟩), by simp [results, Try.results24, go_sem], w.heap.size, rfl, ?_, by omega, ?_⟩
        · exact (HRX.out.keeps hk (fun k hk => .inr (.inl (by simpa using hk))) (by simp; omega)).less (fun k hk => .inl hk)
        · exact (HE4.out.then HK.out (fun i hi h => by unfold OneB at h; omega)).then hk (fun i hi h => by simp at h; omega)
  · generalize (((ringZero.setIfInBounds 0 (Value.int IntKind.i64 0)).setIfInBounds 1 (Value.int IntKind.i64 0)).setIfInBounds 2 (Value.int IntKind.i64 (R.lost : Int))).setIfInBounds 3 (Value.int IntKind.i64 (R.most : Int)) = C at KS K0 K1 K2 K3 ⊢
    have hq := ringZero_at (w.alloc (Obj.cells #[.pointer (some ⟨w.heap.size + 1, 0, none⟩)] 23)) R.most R.lost le2 le3 C KS.out K0.out K1.out K2.out K3.out 63
    have hE : Ext w (((w.alloc (Obj.cells #[.pointer (some ⟨w.heap.size + 1, 0, none⟩)] 23)).alloc (Obj.cells C 63)).drew) := (((Keeps.refl _ _).alloc _).alloc _).drew
    have hbp := ((Box.new w 23 [.pointer (some ⟨w.heap.size + 1, 0, none⟩)]).alloc (Obj.cells C 63)).drew
    simp only [World.size_alloc] at hq
    have hrx : RingX (((w.alloc (Obj.cells #[.pointer (some ⟨w.heap.size + 1, 0, none⟩)] 23)).alloc (Obj.cells C 63)).drew) N' (w.heap.size + 1) ⟨R.most, R.lost, []⟩ :=
      ⟨0, fun _ => False, hq.ext (Keeps.refl _ _).drew, id, fun k hk => hk.elim⟩
    generalize ((w.alloc (Obj.cells #[.pointer (some ⟨w.heap.size + 1, 0, none⟩)] 23)).alloc (Obj.cells C 63)).drew = w3 at hE hbp hrx ⊢
    have BP := Lib.hid hbp
    have HQ := Lib.hid hrx
    have HE := Lib.hid hE
    clear hE hbp hrx hq hz hsz
    refine NoPanic.ok ?_
    have hP3 := BP.out
    obtain ⟨c0, z0⟩ := hP3.reads
    have l0 := hP3.lt
    clear hP3
    gi_wp2_with fail
    refine ⟨trivial, callsIn_wide.2 ((all_x w3 b R (HR.out.ext HE.out) HX.out).mono ?_)⟩
    rintro e w4 ⟨rfl, hs, hE⟩
    have HS := Lib.hid hs
    have HE4 := Lib.hid (HE.out.ext hE)
    have BP4 := Lib.hid (BP.out.ext hE)
    have hq3 := HQ.out.lt
    have hlp := BP4.out.lt
    have HQ4 := Lib.hid ((HQ.out.ext hE).grow (w' := w4) (N' := fun k => N' k ∨ k = w4.heap.size ∨ k = w4.heap.size + 1) (Keeps.refl _ _) (fun h => by have := HN.out _ h; omega) (fun k hk => by
      rcases hk with hk | hk
      · exact .inl hk
      · exact .inr (by omega)))
    have h34 := hE.size
    have h03 := HE.out.size
    clear hE hs c0 z0 l0
    gi_wp2_with fail
    refine wpIn_range rfl (by omega) (gf := 41) (lb := #[.pointer (some ⟨w3.heap.size, 0, none⟩)]) rfl trivial (enters_of Try.func41 (by kernel_rfl) rfl)
      (S := OneB (w.heap.size + 1)) (iter_ring w4 w3.heap.size R.items HS.out (by unfold OneB; omega) (fun k h1 h2 => by unfold OneB at h2; omega) HX.out (by omega)) (by rintro x v W0 W ⟨bv, rfl, _⟩; rfl)
      (fun k W => Keeps (OneB (w.heap.size + 1)) w4 W ∧ RingX W (fun k => N' k ∨ k = w4.heap.size ∨ k = w4.heap.size + 1) (w.heap.size + 1) ⟨R.most, R.lost, R.items.take k⟩)
      (fun _ _ _ => False) (fun k W h => h.1)
      (fun k W W' h hk => ⟨h.1.then hk (fun i hi h => by unfold OneB at h ⊢; omega), h.2.keeps hk (fun k hk => .inr (.inr hk)) (by unfold OneB; omega)⟩)
      (fun _ _ _ _ h _ => h) ⟨Keeps.refl _ _, HQ4.out⟩ ?_ ?_ (fun _ _ _ _ h _ => h.elim)
    · rintro k hk v W0 W - hE0 ⟨hkW, hrx⟩ ⟨bv, rfl, hbv, hwr, hn⟩ hlt0 hlt'
      obtain ⟨av, cv, rfl⟩ := hbv.len
      have hx1 := HX.out _ (List.getElem_mem hk)
      have htk : R.items.take (k + 1) = R.items.take k ++ [R.items[k]] := List.take_succ_eq_append_getElem hk
      generalize R.items[k] = y at hbv htk hx1 ⊢
      have HTK := Lib.hid htk
      have HKW := Lib.hid hkW
      have HRX := Lib.hid hrx
      have HBV := Lib.hid hbv
      have hW4 := hkW.size
      clear hkW hrx hbv hwr htk hE0
      gi_wp2_with fail
      refine ⟨(Keeps.refl _ _).alloc _, fun W2 hW2 => ?_⟩
      have bx1 := (Box.new W 31 [.bool y.side, .int .i64 y.key, .slice av y.bytes.length cv]).keeps hW2 (by unfold OneB; omega)
      have bp1 := ((BP4.out.keeps HKW.out (by unfold OneB; omega)).alloc (Obj.cells #[.bool y.side, .int .i64 y.key, .slice av y.bytes.length cv] 31)).keeps hW2 (by unfold OneB; omega)
      have hEW : Keeps (OneB (w4.heap.size + 1)) W W2 := ((Keeps.refl (OneB (w4.heap.size + 1)) W).alloc (Obj.cells #[.bool y.side, .int .i64 y.key, .slice av y.bytes.length cv] 31)).trans hW2
      have HRX2 := Lib.hid (HRX.out.keeps hEW (fun k hk => .inr (.inr hk)) (by unfold OneB; omega))
      have HBV2 := Lib.hid (HBV.out.keeps hEW (fun g hg h2 => by unfold OneB at h2; omega))
      have HK2 := Lib.hid ((HKW.out.alloc (Obj.cells #[.bool y.side, .int .i64 y.key, .slice av y.bytes.length cv] 31)).then hW2 (fun i hi h => by unfold OneB at h; omega))
      have hWW := hEW.size
      have hlk : (R.items.take k).length = k := by rw [List.length_take]; omega
      have HLK := Lib.hid hlk
      obtain ⟨c1, z1⟩ := bx1.reads
      obtain ⟨c2', z2⟩ := bp1.reads
      have l1 := bx1.lt
      have l2 := bp1.lt
      clear bx1 bp1 hW2 hEW hlk
      gi_wp2_with fail
      refine ⟨trivial, calls_inRound ((push_x (N := fun k => N' k ∨ k = w4.heap.size ∨ k = w4.heap.size + 1) W2 _ _ y _ HRX2.out ⟨_, rfl, HBV2.out⟩ (fun k hk => by
        rcases hk with hk | hk
        · have := HN.out k hk; omega
        · omega) hx1 (by dsimp only; rw [HLK.out]; omega)).mono ?_)⟩
      rintro e W3 ⟨rfl, hr3, hk3⟩
      have HR3 := Lib.hid hr3
      have HK3 := Lib.hid hk3
      clear hr3 hk3
      gi_wp2_with fail
      refine ⟨HK3.out.mono (fun k hk h => .inl ⟨by unfold OneB at h; omega, h⟩), HK2.out.trans HK3.out, ?_⟩
      rw [HTK.out]
      exact HR3.out
    · rintro W ⟨hkW, hrx⟩ hm
      rw [List.take_length] at hrx
      have bp := BP4.out.keeps hkW (by unfold OneB; omega)
      obtain ⟨c0, z0⟩ := bp.reads
      have l0 := bp.lt
      have HK := Lib.hid hkW
      have HRX := Lib.hid hrx
      have HM := Lib.hid hm
      clear bp hkW hrx hm
      gi_wp2_with fail
      refine leaves_marks [w4.heap.size] _ (by simp) ?_ ?_
      · intro D hD
        obtain rfl : D = w4.heap.size := by simpa using hD
        exact HM.out
      · intro w' hk
        refine ⟨.pointer (some ⟨w.heap.size + 1, 0, none⟩), by simp [results, Try.results24, go_sem], w.heap.size + 1, rfl, ?_, by omega, ?_⟩
        · exact (HRX.out.keeps hk (fun k hk => .inr (.inl (by simpa using hk))) (by simp; omega)).less (fun k hk => .inl hk)
        · exact (HE4.out.then HK.out (fun i hi h => by unfold OneB at h; omega)).then hk (fun i hi h => by simp at h; omega)
end Go.Proofs.Ytocjnieehogcbaa
