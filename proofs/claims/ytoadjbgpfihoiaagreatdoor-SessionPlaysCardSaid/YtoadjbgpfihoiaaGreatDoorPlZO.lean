/- Texts SQ, ST, SN, SSame, one behind the other. Conditions: as each says. -/
import Derived.Test.YtoadjbgpfihoiaaGreatDoorPlL
import Derived.Test.YtoadjbgpfihoiaaGreatDoorPlZM
import Derived.Test.YtoadjbgpfihoiaaGreatDoorPlZN
set_option linter.unusedVariables false
set_option linter.unusedSimpArgs false
set_option maxHeartbeats 8000000
set_option maxRecDepth 100000
namespace Go.Proofs.YtoadjbgpfihoiaaGreatDoor
open Go.RowKit
section
attribute [local go_sem] Oper.semAt_some
theorem queued_any (w : World) (p : Option Addr) : Calls Tryz.prog 168 #[.pointer p] w fun e w' => e = .returned (.func (.func 218) #[] #[.pointer (some ⟨w.heap.size, 0, none⟩)]) ∧ w' = w.alloc (.cells #[.pointer p] 64) := by
 go_enter Tryz.func168, Tryz.ntmps168
 go_wp2_with fail; go_ret; exact ⟨rfl, rfl⟩
abbrev queL (kb sb rb : Nat) (bv : Value) (s : Ss) : List Res := [cellsR kb 64 [.pointer (some ⟨sb, 0, none⟩)], cellsR sb 99 (sesC rb bv s), ringR rb s.ring]
def besX (r : Res) : (Nat → Prop) → World → Prop := fun A w => ∃ B, r.p B w ∧ ∀ k, B k → ¬ A k
theorem besX_ok (r : Res) : XOK (besX r) where
 step := fun ⟨B, h1, h2⟩ hk hA => ⟨B, Res.keeps _ h1 hk h2, fun k hB hA' => (hA k hA').elim (h2 k hB) fun h => by have := Res.lt _ h1 k hB; omega⟩
theorem iter_queued (kb sb rb : Nat) (bv : Value) (s : Ss) (hx : ∀ x ∈ s.ring.items, x.bytes.length ≤ 1000000) (hl : s.ring.items.length ≤ 1000) :
 IterR Fence.wide 8 Tryz.prog 218 #[.pointer (some ⟨kb, 0, none⟩)] s.ring.items ItRv (besX (listR (queL kb sb rb bv s))) (listR []) (listR []) := by
 intro ll R Rx W A h0 ⟨B0, hB0, hBA⟩ hround; obtain ⟨C1, D1, q1, ⟨C2, D2, q2, ⟨C3, D3, q3, -, -, -⟩, -, -⟩, -, -⟩ := hB0; have HKB := Hd q1.2; have HSB := Hd q2.2; have HRB := Hd q3; clear q1 q2 q3 hBA; have hm1 := (Mem.ofSep h0).unlist; simp only [List.cons_append, List.nil_append] at hm1; have HM := Hd hm1; have HR := Hd hround; have HLL := Hd hl; have HXX := Hd hx; clear h0 hround hm1 hl hx; refine callsIn_of_wp_marks Tryz.func218 rfl trivial ?_ rfl; simp only [Tryz.ntmps218, List.size_toArray, List.length_cons, List.length_nil, Nat.reduceAdd, Nat.reduceSub, Array.replicate_succ, Array.replicate_zero, List.push_toArray, List.append_toArray, List.nil_append, List.cons_append]; obtain ⟨cHKB, zHKB⟩ := HKB.out.reads; have lHKB := HKB.out.lt; obtain ⟨cHSB, zHSB⟩ := HSB.out.reads; have lHSB := HSB.out.lt; gi_wp2_with fail
 refine wpIn_scope ?_; gi_wp2_with fail
 refine wpIn_label ?_; gi_wp2_with fail
 clear cHKB zHKB lHKB cHSB zHSB lHSB; refine ⟨trivial, callsIn_wide.2 ?_⟩; refine Mem.callE (wr := W) HM.out.to (by repeat (first | assumption | exact Keeps.refl _ _ | with_reducible apply Keeps.drew | with_reducible apply Keeps.alloc)) fun w1 M hE1 => ?_
 replace HM := Hd M; clear M; refine (all_r w1 rb s.ring (Res.keeps _ HRB.out hE1 (fun _ _ => noB _)) HXX.out).mono ?_; rintro e w2 ⟨bx, rfl, hU⟩; replace HM := Hd (HM.out.newU hU); obtain ⟨A2, hA2⟩ := HM.out.get (r := seqR bx s.ring.items) pk; obtain ⟨sv, hm2⟩ := HM.out.openE (M := fun sv => [seqV bx sv s.ring.items]) fun A h => let ⟨sv, h⟩ := seqV_of h; ⟨sv, A, ⟨A, fun _ => False, h, fun _ h => h, fun _ _ h => h, fun k => by simp⟩, fun _ h => h⟩
 simp only [List.cons_append, List.nil_append] at hm2; replace HM := Hd hm2; clear hA2 hU hm2 hE1; clear A2; gi_wp2_with fail
 obtain ⟨k2, hk2⟩ : ∃ k, W.heap.size = k := ⟨_, rfl⟩; rw [hk2] at HM ⊢; clear hk2; obtain ⟨R1, hR1⟩ : ∃ R1 : Nat → Res, R1 = fun k => listR [cellsR k2 228 [.func (.yield ll) #[] #[]], R k] := ⟨_, rfl⟩
 obtain ⟨R2, hR2⟩ : ∃ R2 : Nat → Res, R2 = fun (_ : Nat) => endR R Rx s.ring.items.length := ⟨_, rfl⟩
 have h1 := Mem.list' (L1 := [cellsR k2 228 [.func (.yield ll) #[] #[]], R 0]) (L := [seqV bx sv s.ring.items]) (Mem.sub HM.out (by repeat first | exact Sub.nil | refine Sub.cons (by with_reducible repeat first | exact ph | apply pt) ?_)); have h2 := h1.turn (r' := R1 0) fun A h => by rw [hR1]; exact h
 have h3 := Mem.sub (L' := [seqV bx sv s.ring.items, R1 0]) h2 (by repeat first | exact Sub.nil | refine Sub.cons (by with_reducible repeat first | exact ph | apply pt) ?_); obtain ⟨C, hC, hCI, hS⟩ := Mem.stepN (L1 := [seqV bx sv s.ring.items, R1 0]) (L := []) h3; have HS := Hd hS; have HE2 := Hd hCI; have HR1 := Hd hR1; have HR2 := Hd hR2; clear h1 h2 h3 HM hS hR1 hR2 hCI; have hit := (iter_items bx sv s.ring.items HXX.out HLL.out).wide (m := 7); refine wpIn_rangeR_break rfl (by omega) (gf := 217) (lb := #[.pointer (some ⟨bx, 0, none⟩)]) rfl trivial (enters_of Tryz.func217 (by kernel_rfl) rfl) itRv_ok noX_ok hit (by rintro x v F W ⟨y, B, rfl, -⟩; rfl) R1 R2 hC trivial ?_ ?_
 · clear hC hit
   intro k hk v F0 W2 _ hR hv hlt; obtain ⟨y, B, rfl, ⟨bv', rfl, hby⟩, hB⟩ := hv; obtain ⟨a', c', rfl⟩ := hby.len; rw [HR1.out] at hR; have hm0 := (Mem.start hR).unlist; simp only [List.cons_append, List.nil_append] at hm0; have HM := Hd hm0; clear hR hm0; gi_wp2_with fail
   have hm := HM.out.to (w' := W2.alloc (Obj.cells #[.bool s.ring.items[k].side, .int .i64 s.ring.items[k].key, .slice a' s.ring.items[k].bytes.length c'] 152)); refine ⟨_, hm.updAll, fun F1 W3 hK3 hR3 hv3 hlt3 => ?_⟩; clear HM hm hby hB; clear B; obtain ⟨k3, hk3⟩ : ∃ k, W2.heap.size = k := ⟨_, rfl⟩; rw [hk3] at hR3 ⊢; have HM := Hd (Mem.ofSep hR3); obtain ⟨y, B, hye, hvi, hB⟩ := hv3; obtain rfl : Value.agg #[.bool s.ring.items[k].side, .int .i64 s.ring.items[k].key, .slice a' s.ring.items[k].bytes.length c'] = y := by simpa using hye
   have HVI := Hd hvi; have HB2 := Hd hB; have HK3 := Hd hK3; clear hR3 hk3 hye hvi hB hK3; obtain ⟨F2, hF2, hF2i, hS2⟩ := (HM.out.pick (r := R k) pk).stepIn; have hF2b := hF2i.2; obtain ⟨fn, tmps, assign, body, hy, hRd⟩ := HR.out k hk #[.agg #[.bool s.ring.items[k].side, .int .i64 s.ring.items[k].key, .slice a' s.ring.items[k].bytes.length c']] W3 F2 (HE2.out.trans (HK3.out.trans hF2i)) hF2 ⟨_, B, rfl, HVI.out, fun j hj => ⟨fun h => (hF2b j h).elim (HB2.out j hj).1 (by have := (HB2.out j hj).2; omega), (HB2.out j hj).2⟩⟩; have HRd := Hd hRd; have HSS := Hd hS2; clear hRd hS2 hF2b hF2i hF2; have fM := HM.out.fa; gi_wp2_with fail
   clear fM; refine (roundIn_any HRd.out).mono ?_; rintro e W5 (⟨rfl, hU⟩ | ⟨rfl, hU⟩)
   · replace HM := Hd (HSS.out _ _ hU)
     clear hU HSS hy HRd; gi_wp2_with fail
     show Upd F1 W3 _ (R1 (k + 1))
     refine nxt HM fun W9 M => ?_
     replace HM := M; clear M; rw [HR1.out]; exact (Mem.list' (L1 := [cellsR k2 228 [.func (.yield ll) #[] #[]], R (k + 1)]) (L := []) (Mem.sub HM.out (by repeat first | exact Sub.nil | refine Sub.cons (by with_reducible repeat first | exact ph | apply pt) ?_))).upd
   · replace HM := Hd (HSS.out _ _ hU)
     clear hU HSS hy HRd; gi_wp2_with fail
     show Upd F1 W3 _ (condR _ (R2 (k + 1)))
     refine nxt HM fun W9 M => ?_
     replace HM := M; clear M; rw [HR2.out]; have g1 := (HM.out.pick (r := Rx (k + 1)) pk).turn (r' := endR R Rx s.ring.items.length) fun A h => ⟨⟨Rx (k + 1), .inr ⟨k, hk, rfl⟩⟩, h⟩
     exact (g1.turn (r' := condR (Code.exit 0 = Code.exit 0) (endR R Rx s.ring.items.length)) fun A h => ⟨rfl, h⟩).upd
 · clear hC hit
   intro W3 r hr hU; have hm := (HS.out _ _ hU).unall; simp only [List.cons_append, List.nil_append] at hm
   have hm2 : Mem A W W3 [markR w2.heap.size, endR R Rx s.ring.items.length] := by
    rcases hr with rfl | ⟨k, hk, rfl⟩
    · have h1 := hm.pick (r := R1 s.ring.items.length) pk
      rw [HR1.out] at h1; have h2 := h1.unlist; simp only [List.cons_append, List.nil_append] at h2; have h3 := (h2.pick (r := R s.ring.items.length) pk).turn (r' := endR R Rx s.ring.items.length) fun A h => ⟨⟨R s.ring.items.length, .inl rfl⟩, h⟩
      exact Mem.sub h3 (by repeat first | exact Sub.nil | refine Sub.cons (by with_reducible repeat first | exact ph | apply pt) ?_)
    · have h1 := hm.pick (r := R2 (k + 1)) pk
      rw [HR2.out] at h1; exact Mem.sub h1 (by repeat first | exact Sub.nil | refine Sub.cons (by with_reducible repeat first | exact ph | apply pt) ?_)
   have HM := Hd hm2; clear hm hm2 hr hU; gi_wp2_with fail
   rw [Exit.noGoto_normal]; refine leaves_marks [w2.heap.size] _ (by simp) HM.out.mark ?_; intro w' hk; have hm := HM.out.unmark hk; obtain ⟨⟨r, hr⟩, h1⟩ := Mem.unsome (hm.pick (r := endR R Rx s.ring.items.length) pk); have h2 := Mem.list' (L1 := []) (L := [r]) (Mem.sub h1 (by repeat first | exact Sub.nil | refine Sub.cons (by with_reducible repeat first | exact ph | apply pt) ?_)); exact ⟨.tuple #[], results_none rfl _ _ _, ⟨_, rfl⟩, r, hr, h2.updAll⟩
theorem lv_bool (w : World) (b : Nat) (n : Bool) (h : w.cell? ⟨b, 0, none⟩ = some (.bool n)) : (loadVar 4 ⟨b, 0, none⟩).run Tryz.prog w = .ok (.bool n) w := by simp [go_sem, h]
theorem waits_any {F : Nat → Prop} {w0 : World} (w : World) (sb rb : Nat) (bv : Value) (s : Ss) (hx : ∀ x ∈ s.ring.items, x.bytes.length ≤ 1000000) (hl : s.ring.items.length ≤ 1000) (hn : 0 ≤ s.acked ∧ s.acked ≤ s.sent ∧ s.sent ≤ 2147483648)
 (h : Mem F w0 w (sesM sb rb bv s [])) :
 Calls Tryz.prog 107 #[.pointer (some ⟨sb, 0, none⟩)] w fun e w' => e = .returned (.bool s.waits) ∧ Mem F w0 w' (sesM sb rb bv s []) := by
 have HM := Hd h; have HLL := Hd hl; have HXX := Hd hx; have HNN := Hd hn; clear h hl hx hn; refine (callsIn_wide (n := 9)).1 (callsIn_of_wp_marks Tryz.func107 rfl trivial ?_ rfl); simp only [Tryz.ntmps107, List.size_toArray, List.length_cons, List.length_nil, Nat.reduceAdd, Nat.reduceSub, Array.replicate_succ, Array.replicate_zero, List.push_toArray, List.append_toArray, List.nil_append, List.cons_append]; have fM := HM.out.fa; gi_wp2_with fail
 clear fM; refine ⟨trivial, callsIn_wide.2 ?_⟩; obtain ⟨k1, hk1⟩ : ∃ k, w.heap.size = k := ⟨_, rfl⟩; obtain ⟨k2, hk2⟩ : ∃ k, k1 + 1 = k := ⟨_, rfl⟩; refine nxt HM fun w1 M => ?_
 replace HM := M; clear M; rw [hk1, hk2] at HM; rw [hk1, hk2]; clear hk1 hk2; refine (queued_any w1 _).mono ?_; rintro e w2 ⟨rfl, rfl⟩; gi_wp2_with fail
 obtain ⟨kq, hkq⟩ : ∃ k, w1.heap.size = k := ⟨_, rfl⟩; refine nxt HM fun w2 M => ?_
 replace HM := M; clear M; rw [hkq] at HM ⊢; clear hkq
 have HWT := Hd (fun (x : It) (r : List It) (h : s.ring.items = x :: r) => show s.waits = (!x.side && decide (s.sent - s.acked ≥ (s.ring.most : Int))) by
  unfold Ss.waits; rw [h])
 have HW0 := Hd (fun (h : s.ring.items.length = 0) => show s.waits = false by unfold Ss.waits; rw [List.eq_nil_of_length_eq_zero h]); obtain ⟨R1, hR1⟩ : ∃ R1 : Nat → Res, R1 = fun k => condR (k = 0) (listR [cellsR k2 4 [.bool false], cellsR k1 64 [.pointer (some ⟨sb, 0, none⟩)]]) := ⟨_, rfl⟩
 obtain ⟨R2, hR2⟩ : ∃ R2 : Code → Nat → Res, R2 = fun c _ => condR (c = .ret ∧ 0 < s.ring.items.length) (listR [cellsR k2 4 [.bool s.waits], cellsR k1 64 [.pointer (some ⟨sb, 0, none⟩)]]) := ⟨_, rfl⟩
 have h1 := Mem.list' (L1 := [cellsR k2 4 [.bool false], cellsR k1 64 [.pointer (some ⟨sb, 0, none⟩)]]) (L := cellsR kq 64 [.pointer (some ⟨sb, 0, none⟩)] :: sesM sb rb bv s []) (Mem.sub HM.out (by repeat first | exact Sub.nil | refine Sub.cons (by with_reducible repeat first | exact ph | apply pt) ?_)); have h2 := h1.turn (r' := R1 0) fun A h => by rw [hR1]; exact ⟨rfl, h⟩
 have h3 := Mem.list' (L1 := queL kq sb rb bv s) (L := [R1 0, byeR bv s.bye]) (Mem.sub h2 (by repeat first | exact Sub.nil | refine Sub.cons (by with_reducible repeat first | exact ph | apply pt) ?_)); have h4 := Mem.list' (L1 := []) (L := [R1 0, listR (queL kq sb rb bv s), byeR bv s.bye]) (Mem.sub h3 (by repeat first | exact Sub.nil | refine Sub.cons (by with_reducible repeat first | exact ph | apply pt) ?_)); have h5 := Mem.list' (L1 := [listR [], R1 0]) (L := [listR (queL kq sb rb bv s), byeR bv s.bye]) h4; obtain ⟨C, B, hC, hB, hd, hCI, hS⟩ := h5.beside (r := listR [listR [], R1 0]) (x := listR (queL kq sb rb bv s)) pk pk; obtain ⟨C1, D1, q1, ⟨C2, D2, q2, -, -, q5⟩, -, q4⟩ := id hB; have HSB := Hd q2.2; have HNC := Hd (hd sb ((q4 sb).2 (.inr ((q5 sb).2 (.inl ((q2.1 sb).2 rfl)))))); have HS := Hd hS; have HR1 := Hd hR1; have HR2 := Hd hR2; have hit := (iter_queued kq sb rb bv s HXX.out HLL.out).wide (m := 8); clear h1 h2 h3 h4 h5 HM hS hR1 hR2 hCI q1 q2 q4 q5; refine wpIn_rangeR rfl (by omega) (gf := 218) (lb := #[.pointer (some ⟨kq, 0, none⟩)]) rfl trivial (enters_of Tryz.func218 (by kernel_rfl) rfl) itRv_ok (besX_ok _) hit (by rintro x v F W ⟨y, B, rfl, -⟩; rfl) R1 R2 hC ⟨B, hB, hd⟩ ?_ ?_ ?_
 · clear hC hit hB hd
   intro k hk v F0 W2 _ hR hv hlt; obtain ⟨x, hx⟩ : ∃ x, s.ring.items[k] = x := ⟨_, rfl⟩; rw [hx] at hv ⊢; obtain ⟨y, B', rfl, ⟨bv', rfl, hby⟩, hB'⟩ := hv; obtain ⟨a', c', rfl⟩ := hby.len; rw [HR1.out] at hR; obtain ⟨hk0, hR⟩ := hR
   have hxr : ∃ r, s.ring.items = x :: r := by
    subst hk0; cases h : s.ring.items with
    | nil => rw [h] at hk; simp at hk
    | cons z r => exact ⟨r, by rw [← hx]; simp [h]⟩
   obtain ⟨r, hxr⟩ := hxr; have hm0 := (Mem.start hR).unlist; simp only [List.cons_append, List.nil_append] at hm0; have HM := Hd hm0; have HW := Hd (HWT.out x r hxr); have HPOS := Hd (show 0 < s.ring.items.length by omega); clear hR hm0 hby hB' hx hxr hk; gi_wp2_with fail
   have hm := HM.out.to (w' := W2.alloc (Obj.cells #[.bool x.side, .int .i64 x.key, .slice a' x.bytes.length c'] 152)); refine ⟨_, hm.updAll, fun F1 W3 hK3 hR3 hv3 hlt3 => ?_⟩; clear HM hm hv3; obtain ⟨k3, hk3⟩ : ∃ k, W2.heap.size = k := ⟨_, rfl⟩; rw [hk3] at hR3 ⊢; have HM := Hd (Mem.ofSep hR3); have HS3 := Hd (HSB.out.keeps hK3.1 HNC.out); clear hR3 hk3 hK3; have hwr : IntKind.i64.wrap (s.sent - s.acked) = s.sent - s.acked := IntWalk.i64_in _ (by have := HNN.out; omega); have HWR := Hd hwr; clear hwr; obtain ⟨xs, xk, xb⟩ := x; dsimp only at HM HW ⊢; obtain ⟨cHS3, zHS3⟩ := HS3.out.reads; have lHS3 := HS3.out.lt; cases xs with
   | true =>
     have fM := HM.out.fa; gi_wp2_with fail
     have hE0 : Keeps NoB W3 W3.drew := (Keeps.refl _ _).drew; refine wpIn_region_plan [(0, 0), (3, 1), (0, 2), (0, 3), (3, 4), (0, 5), (0, 6), (0, 7), (3, 8), (3, 9), (0, 10), (0, 11), (0, 12), (3, 13), (0, 14), (3, 15), (0, 16), (0, 17), (3, 18), (0, 19), (0, 20)] [] [21] [21] (ClsE W3) (by kernel_rfl) (by rintro ⟨_, _, h⟩; exact h) (by kernel_rfl) (by kernel_rfl) (plan3 [0, 1, 3, 7, 15, 31, 63, 127, 255, 15, 527, 1551, 3599, 7695, 16383, 15, 32783, 98319, 229391, 524287, 1048575, 2097151] (by kernel_rfl) rfl (by kernel_rfl)) rfl rfl (ClsE.of hE0) (fun _ _ _ d _ h => by cases d <;> exact h) ?_; simp only [planL, nL]; iterate 5 (first | (refine plan_skip rfl ?_; simp only [nP]) | (refine pM _ rfl rfl ?_; simp only [nP, nE]) | (refine pR (by rfl) (fun W => by go_simp <;> with_reducible rfl) ?_; simp only [nP]) | (refine pX (by rfl) (by go_simp <;> with_reducible rfl) ?_; simp only [nP]))
     iterate 3 ((refine plan_skip rfl ?_; simp only [nP]))
     iterate 2 ((refine plan_skip rfl ?_; simp only [nP]))
     iterate 3 ((refine plan_skip rfl ?_; simp only [nP]))
     iterate 3 (refine plan_skip rfl ?_; simp only [nP])
     iterate 2 ((refine plan_skip rfl ?_; simp only [nP]))
     iterate 3 (first | (refine plan_skip rfl ?_; simp only [nP]) | (refine pR (by rfl) (fun W => by go_simp <;> with_reducible rfl) ?_; simp only [nP]))
     refine plan_nil ?_; simp only [tailL, List.filterMap_cons, List.filterMap_nil, nL]; change wpList _ _ _ (_ :: []) _ _; go_wp2_with fail; clear fM; gi_wp2_with fail
     show Upd F1 W3 _ (R2 .ret (k + 1))
     refine nxt HM fun W4 M => ?_
     replace HM := M; clear M; rw [HR2.out, show s.waits = false from by rw [HW.out]; simp]; exact ((Mem.list' (L1 := [cellsR k2 4 [.bool false], cellsR k1 64 [.pointer (some ⟨sb, 0, none⟩)]]) (L := []) (Mem.sub HM.out (by repeat first | exact Sub.nil | refine Sub.cons (by with_reducible repeat first | exact ph | apply pt) ?_))).turn (r' := condR (Code.ret = .ret ∧ 0 < s.ring.items.length) _) fun A h => ⟨⟨rfl, HPOS.out⟩, h⟩).upd
   | false =>
     have hwr := HWR.out; have fM := HM.out.fa; gi_wp2_with fail
     have hE0 : Keeps NoB W3 W3.drew := (Keeps.refl _ _).drew; refine wpIn_region_plan [(0, 0), (3, 1), (0, 2), (0, 3), (3, 4), (0, 5), (0, 6), (0, 7), (3, 8), (3, 9), (0, 10), (0, 11), (0, 12), (3, 13), (0, 14), (3, 15), (0, 16), (0, 17), (3, 18), (0, 19), (0, 20)] [] [21] [21] (ClsE W3) (by kernel_rfl) (by rintro ⟨_, _, h⟩; exact h) (by kernel_rfl) (by kernel_rfl) (plan3 [0, 1, 3, 7, 15, 31, 63, 127, 255, 15, 527, 1551, 3599, 7695, 16383, 15, 32783, 98319, 229391, 524287, 1048575, 2097151] (by kernel_rfl) rfl (by kernel_rfl)) rfl rfl (ClsE.of hE0) (fun _ _ _ d _ h => by cases d <;> exact h) ?_; simp only [planL, nL]; iterate 5 (first | (refine pM _ rfl rfl ?_; simp only [nP, nE]) | (refine pR (by rfl) (fun W => by go_simp <;> with_reducible rfl) ?_; simp only [nP]) | (refine pX (by rfl) (by go_simp <;> with_reducible rfl) ?_; simp only [nP]))
     iterate 3 ((refine pR rfl (fun W => by go_simp <;> with_reducible rfl) ?_; simp only [nP]))
     iterate 2 ((refine pX rfl (by go_simp <;> with_reducible rfl) ?_; simp only [nP]))
     iterate 3 ((refine pR rfl (fun W => by go_simp <;> with_reducible rfl) ?_; simp only [nP]))
     iterate 3 (first | (refine pR (by rfl) (fun W => by go_simp <;> with_reducible rfl) ?_; simp only [nP]) | (refine pX (by rfl) (by go_simp <;> with_reducible rfl) ?_; simp only [nP]))
     iterate 2 ((refine pR rfl (fun W => by go_simp <;> with_reducible rfl) ?_; simp only [nP]))
     iterate 3 (first | (refine pR (by rfl) (fun W => by go_simp <;> with_reducible rfl) ?_; simp only [nP]) | (refine pX (by rfl) (by go_simp <;> with_reducible rfl) ?_; simp only [nP]))
     refine plan_nil ?_; simp only [tailL, List.filterMap_cons, List.filterMap_nil, nL]; change wpList _ _ _ (_ :: []) _ _; go_wp2_with fail; clear fM; gi_wp2_with fail
     show Upd F1 W3 _ (R2 .ret (k + 1))
     refine nxt HM fun W4 M => ?_
     replace HM := M; clear M; rw [HR2.out, show s.waits = decide ((s.ring.most : Int) ≤ s.sent - s.acked) from by rw [HW.out]; simp]; exact ((Mem.list' (L1 := [cellsR k2 4 [.bool (decide ((s.ring.most : Int) ≤ s.sent - s.acked))], cellsR k1 64 [.pointer (some ⟨sb, 0, none⟩)]]) (L := []) (Mem.sub HM.out (by repeat first | exact Sub.nil | refine Sub.cons (by with_reducible repeat first | exact ph | apply pt) ?_))).turn (r' := condR (Code.ret = .ret ∧ 0 < s.ring.items.length) _) fun A h => ⟨⟨rfl, HPOS.out⟩, h⟩).upd
 · intro W3 hU
   have hm := (HS.out _ _ hU).unall; simp only [List.cons_append, List.nil_append] at hm; have h1 := hm.pick (r := R1 s.ring.items.length) pk; rw [HR1.out] at h1; have hz := h1.fact fun A h => h.1
   have h2 := (h1.turn (r' := listR [cellsR k2 4 [.bool false], cellsR k1 64 [.pointer (some ⟨sb, 0, none⟩)]]) fun A h => h.2).unlist; simp only [List.cons_append, List.nil_append] at h2; have h3 := (h2.pick (r := listR (queL kq sb rb bv s)) pk).unlist; simp only [List.cons_append, List.nil_append] at h3; have HM := Hd h3; have HW := Hd (HW0.out hz); clear hm h1 h2 h3 hz hU hB hd hC hit; have fM := HM.out.fa; gi_wp2_with fail
   clear fM; refine nxt HM fun W4 M => ?_
   replace HM := M; clear M; rw [HW.out]; replace HM := Hd (HM.out.pick (r := markR w2.heap.size) pk); refine leaves_marks [w2.heap.size] _ (by simp) HM.out.mark ?_; intro w' hk; have hm := HM.out.unmark hk; obtain ⟨_, h2⟩ := hm.get (r := cellsR k2 4 [.bool false]) pk; exact ⟨_, results_c rfl _ rfl (lv_bool w' k2 _ (h2.2.reads.1 0)), rfl, Mem.sub hm (by repeat first | exact Sub.nil | refine Sub.cons (by with_reducible repeat first | exact ph | apply pt) ?_)⟩
 · intro c k W3 hk hU
   have hm := (HS.out _ _ hU).unall; simp only [List.cons_append, List.nil_append] at hm; have h1 := hm.pick (r := R2 c (k + 1)) pk; rw [HR2.out] at h1; have hz := h1.fact fun A h => h.1
   have h2 := (h1.turn (r' := listR [cellsR k2 4 [.bool s.waits], cellsR k1 64 [.pointer (some ⟨sb, 0, none⟩)]]) fun A h => h.2).unlist; simp only [List.cons_append, List.nil_append] at h2; have h3 := (h2.pick (r := listR (queL kq sb rb bv s)) pk).unlist; simp only [List.cons_append, List.nil_append] at h3; have HM := Hd h3; obtain ⟨rfl, -⟩ := hz; clear hm h1 h2 h3 hU hB hd hC hit; gi_wp2_with fail
   replace HM := Hd (HM.out.pick (r := markR w2.heap.size) pk); refine leaves_marks [w2.heap.size] _ (by simp) HM.out.mark ?_; intro w' hk; have hm := HM.out.unmark hk; obtain ⟨_, h2⟩ := hm.get (r := cellsR k2 4 [.bool s.waits]) pk; exact ⟨_, results_c rfl _ rfl (lv_bool w' k2 _ (h2.2.reads.1 0)), rfl, Mem.sub hm (by repeat first | exact Sub.nil | refine Sub.cons (by with_reducible repeat first | exact ph | apply pt) ?_)⟩
end
theorem nxtK {F : Nat → Prop} {w0 w w' : World} {L L' : List Res} {p : Prop} {G : World → Prop} [g : Gl p G w'] (m : Hid (Mem F w0 w L)) [h : Wo w L w' L'] {S : Nat → Prop} (hk : Keeps S w w') (k : ∀ w1, Hid (Mem F w0 w1 L') → Keeps S w w1 → G w1) : p := g.out (k _ (Hd m.out.to) hk)
def TakePost (A : Nat → Prop) (w : World) (sb : Nat) (s : Ss) (e : Ending) (w' : World) : Prop :=
 ∃ v, e = .returned (.tuple #[v, .bool s.take.2.isSome]) ∧ Upd A w w' (sesR sb s.take.1) ∧ Bytes w' (fun k => (A k ∨ w.heap.size ≤ k) ∧ k < w'.heap.size) v (s.take.2.getD [])
theorem bytes_nil0 {A : Nat → Prop} {w : World} : Bytes w A (.slice none 0 0) [] := .inl ⟨none, rfl, rfl⟩
theorem take_closed {A : Nat → Prop} (w : World) (sb : Nat) (s : Ss) (hc : s.closed = true) (h : (sesR sb s).p A w) :
 Calls Tryz.prog 43 #[.pointer (some ⟨sb, 0, none⟩)] w (TakePost A w sb s) := by
 obtain ⟨rb, bv, hm⟩ := (Mem.start h).sesOpen; have HM := Hd hm; have ht : s.take = ({ s with bye := none }, s.bye) := by unfold Ss.take; rw [if_pos hc]
 unfold TakePost; rw [ht]; dsimp only; obtain ⟨C, B, hC, hB, hd, hI, -⟩ := HM.out.beside (r := byeR bv s.bye) (x := cellsR sb 99 (sesC rb bv s)) pk pk; have hnc := hd sb ((hB.1 sb).2 rfl); have hci := hI.2; have hq1 := eq_noneU; have hq2 := eq_sliceU; rcases byeR.form hC with ⟨h1, rfl⟩ | ⟨l, p, c, h1, rfl⟩
 · rw [h1]
   clear hm h ht hC hB hd hI h1 hnc hci; clear B C; go_enter Tryz.func43, Tryz.ntmps43
   have fM := HM.out.fa; go_wp2_with fail; all_goals clear fM
   obtain ⟨_, hbs⟩ := HM.out.get (r := cellsR sb 99 (sesC rb (.slice none 0 0) s)) pk; refine (snone_ses hbs.2).mono ?_; clear hbs; rintro e w2 ⟨rfl, hw⟩; rw [hw]; clear hw w2; have fM := HM.out.fa; go_wp2_with fail; all_goals clear fM
   refine nxt HM fun w4 M => ?_
   replace HM := M; clear M; go_ret2
   exact ⟨_, rfl, Mem.sesUpd (bv := .slice none 0 0) (s := { s with bye := none }) (Mem.sub (HM.out.byeNil) (by repeat first | exact Sub.nil | refine Sub.cons (by with_reducible repeat first | exact ph | apply pt) ?_)), bytes_nil0⟩
 · rw [h1] at hC
   obtain ⟨-, hb⟩ := byeR.byt hC; have HBY := Hd (bytR.bytes hb); have HLT := Hd (Res.lt _ hb); have HNC := Hd hnc; have HCI := Hd hci; rw [h1]; rw [h1] at HM; clear hm h ht hC hB hd hI hnc hci hb; go_enter Tryz.func43, Tryz.ntmps43
   have fM := HM.out.fa; go_wp2_with fail; all_goals clear fM
   obtain ⟨_, hbs⟩ := HM.out.get (r := cellsR sb 99 (sesC rb (.slice (some p) l.length c) s)) pk; refine (snone_ses hbs.2).mono ?_; clear hbs; rintro e w2 ⟨rfl, hw⟩; rw [hw]; clear hw w2; have fM := HM.out.fa; go_wp2_with fail; all_goals clear fM
   refine nxtK HM (S := OneB sb) (by repeat (first | exact Keeps.refl _ _ | with_reducible apply Keeps.setOne)) fun w4 M hK => ?_
   clear HM; have HM := M; clear M; have HK := Hd hK; clear hK; go_ret2
   refine ⟨_, rfl, Mem.sesUpd (bv := .slice none 0 0) (s := { s with bye := none }) (Mem.sub (HM.out.byeNil) (by repeat first | exact Sub.nil | refine Sub.cons (by with_reducible repeat first | exact ph | apply pt) ?_)), ?_⟩; exact ((HBY.out.keeps HK.out fun k hk h => HNC.out (by rw [show k = sb from h] at hk; exact hk)).mono fun k hk => ⟨HCI.out k hk, Nat.lt_of_lt_of_le (HLT.out k hk) HK.out.size⟩)
theorem take_open {A : Nat → Prop} (w : World) (sb : Nat) (s : Ss) (n : Nat) (hok : OkSs s n) (hc : s.closed = false) (h : (sesR sb s).p A w) :
 Calls Tryz.prog 43 #[.pointer (some ⟨sb, 0, none⟩)] w (TakePost A w sb s) := by
 obtain ⟨rb, bv, hm⟩ := (Mem.start h).sesOpen; have HM := Hd hm; have HOK := Hd hok; have hcn : ¬ s.closed = true := by rw [hc]; exact Bool.false_ne_true
 unfold TakePost; cases hw : s.waits with
 | true =>
   have ht : s.take = (s, none) := by unfold Ss.take; rw [if_neg hcn, if_pos hw]
   rw [ht]; dsimp only; clear h ht hm hok hcn; go_enter Tryz.func43, Tryz.ntmps43
   have fM := HM.out.fa; go_wp2_with fail; all_goals clear fM
   obtain ⟨_, hbs⟩ := HM.out.get (r := cellsR sb 99 (sesC rb bv s)) pk; refine (snone_ses hbs.2).mono ?_; clear hbs; rintro e w2 ⟨rfl, hw⟩; rw [hw]; clear hw w2; have fM := HM.out.fa; go_wp2_with fail; all_goals clear fM
   have hbd := HOK.out; have hbd2 := hbd.next0; have hbd3 := hbd.next1; have hbd4 := hbd.sent0; have hbd5 := hbd.ack0; have hbd6 := hbd.most; have hbd7 := hbd.len; refine (waits_any w sb rb bv s (fun x hx => Nat.le_trans (hbd.its x hx) (by decide)) (by omega) ⟨hbd5, hbd4, by omega⟩ HM.out).mono ?_; clear hbd hbd2 hbd3 hbd4 hbd5 hbd6 hbd7; rintro e w2 ⟨rfl, hm⟩; clear HM; have HM := Hd hm; clear hm; rw [hw]; clear hw; have fM := HM.out.fa; go_wp2_with fail; all_goals clear fM
   go_ret2
   exact ⟨_, rfl, Mem.sesUpd HM.out, bytes_nil0⟩
 | false =>
   have hwn : ¬ s.waits = true := by rw [hw]; exact Bool.false_ne_true
   cases hi : s.ring.items with
   | nil =>
     have ht : s.take = (s, none) := by unfold Ss.take; rw [if_neg hcn, if_neg hwn, hi]
     rw [ht]; dsimp only; have HR := Hd (show s.ring = ⟨s.ring.most, s.ring.lost, []⟩ by rw [← hi]); clear h ht hm hok hcn hwn hi; go_enter Tryz.func43, Tryz.ntmps43
     have fM := HM.out.fa; go_wp2_with fail; all_goals clear fM
     obtain ⟨_, hbs⟩ := HM.out.get (r := cellsR sb 99 (sesC rb bv s)) pk; refine (snone_ses hbs.2).mono ?_; clear hbs; rintro e w2 ⟨rfl, hw⟩; rw [hw]; clear hw w2; have fM := HM.out.fa; go_wp2_with fail; all_goals clear fM
     have hbd := HOK.out; have hbd2 := hbd.next0; have hbd3 := hbd.next1; have hbd4 := hbd.sent0; have hbd5 := hbd.ack0; have hbd6 := hbd.most; have hbd7 := hbd.len; refine (waits_any w sb rb bv s (fun x hx => Nat.le_trans (hbd.its x hx) (by decide)) (by omega) ⟨hbd5, hbd4, by omega⟩ HM.out).mono ?_; clear hbd hbd2 hbd3 hbd4 hbd5 hbd6 hbd7; rintro e w2 ⟨rfl, hm⟩; clear HM; have HM := Hd hm; clear hm; rw [hw]; clear hw; have fM := HM.out.fa; go_wp2_with fail; all_goals clear fM
     obtain ⟨C, hC⟩ := HM.out.get (r := ringR rb s.ring) pk; rw [HR.out] at hC; refine (take_r0 w2 rb _ _ hC).mono ?_; rintro e w3 ⟨rfl, hE⟩; replace HM := Hd (HM.out.ext hE); clear hC hE; clear C; have fM := HM.out.fa; go_wp2_with fail; all_goals clear fM
     refine nxt HM fun w4 M => ?_
     replace HM := M; clear M; go_ret2
     exact ⟨_, rfl, Mem.sesUpd (Mem.sub HM.out (by repeat first | exact Sub.nil | refine Sub.cons (by with_reducible repeat first | exact ph | apply pt) ?_)), bytes_nil0⟩
   | cons x r =>
     have ht : s.take = ({ s with ring := { s.ring with items := r }, sent := s.sent + if x.side then 0 else 1 }, some x.bytes) := by unfold Ss.take; rw [if_neg hcn, if_neg hwn, hi]
     rw [ht]; dsimp only; have HR := Hd (show s.ring = ⟨s.ring.most, s.ring.lost, x :: r⟩ by rw [← hi]); have hsb : s.sent + 1 ≤ 2147483649 := by have := hok.next0; have := hok.next1; omega
     have hsa : 0 ≤ s.sent := by have := hok.ack0; have := hok.sent0; omega
     clear h ht hm hok hcn hwn hi; go_enter Tryz.func43, Tryz.ntmps43
     have fM := HM.out.fa; go_wp2_with fail; all_goals clear fM
     obtain ⟨_, hbs⟩ := HM.out.get (r := cellsR sb 99 (sesC rb bv s)) pk; refine (snone_ses hbs.2).mono ?_; clear hbs; rintro e w2 ⟨rfl, hw⟩; rw [hw]; clear hw w2; have fM := HM.out.fa; go_wp2_with fail; all_goals clear fM
     have hbd := HOK.out; have hbd2 := hbd.next0; have hbd3 := hbd.next1; have hbd4 := hbd.sent0; have hbd5 := hbd.ack0; have hbd6 := hbd.most; have hbd7 := hbd.len; refine (waits_any w sb rb bv s (fun x hx => Nat.le_trans (hbd.its x hx) (by decide)) (by omega) ⟨hbd5, hbd4, by omega⟩ HM.out).mono ?_; clear hbd hbd2 hbd3 hbd4 hbd5 hbd6 hbd7; rintro e w2 ⟨rfl, hm⟩; clear HM; have HM := Hd hm; clear hm; rw [hw]; clear hw; have fM := HM.out.fa; go_wp2_with fail; all_goals clear fM
     obtain ⟨C, B, hC, hB, hd, hI, hS⟩ := HM.out.beside (r := ringR rb s.ring) (x := cellsR sb 99 (sesC rb bv s)) pk pk; have HNC := Hd (hd sb ((hB.1 sb).2 rfl)); have HCI := Hd hI.2; have HCL := Hd (Res.lt _ hC); rw [HR.out] at hC; refine (take_r w2 rb s.ring.most s.ring.lost x r hC).mono ?_; rintro e w3 ⟨v, rfl, ⟨bv', rfl, hby⟩, hU⟩; obtain ⟨a', c', rfl⟩ := hby.len; have HBY := Hd hby
     have HUK := Hd hU.keepsTo; replace HM := Hd (hS _ _ hU); clear hC hB hd hI hS hU hby
     clear B; obtain ⟨xs, xk, xb⟩ := x; dsimp only at HBY ⊢; cases xs with
     | true =>
       have fM := HM.out.fa; go_wp2_with fail; all_goals clear fM
       refine nxtK HM (S := OneB sb) (by repeat (first | exact Keeps.refl _ _ | with_reducible apply Keeps.setOne | with_reducible apply Keeps.alloc)) fun w4 M hK => ?_
       clear HM; have HM := M; have HK := Hd hK; clear M hK; go_ret2
       refine ⟨_, rfl, ?_, ?_⟩
       · have h9 := Mem.sesUpd (rb := rb) (bv := bv) (s := { s with ring := { s.ring with items := r }, sent := s.sent }) (Mem.sub HM.out (by repeat first | exact Sub.nil | refine Sub.cons (by with_reducible repeat first | exact ph | apply pt) ?_))
         rw [hc] at h9; exact h9
       exact (HBY.out.keeps HK.out fun k hk h => HNC.out (by rw [show k = sb from h] at hk; exact hk.1)).mono fun k hk => ⟨HCI.out k hk.1, Nat.lt_of_lt_of_le (HCL.out k hk.1) (Nat.le_trans HUK.out.size HK.out.size)⟩
     | false =>
       have hw1 : wrap64 (s.sent + 1) = s.sent + 1 := IntWalk.wrap64_in _ (by omega); have fM := HM.out.fa; go_wp2_with fail; all_goals clear fM
       refine nxtK HM (S := OneB sb) (by repeat (first | exact Keeps.refl _ _ | with_reducible apply Keeps.setOne | with_reducible apply Keeps.alloc)) fun w4 M hK => ?_
       clear HM; have HM := M; have HK := Hd hK; clear M hK; go_ret2
       refine ⟨_, rfl, ?_, ?_⟩
       · have h9 := Mem.sesUpd (rb := rb) (bv := bv) (s := { s with ring := { s.ring with items := r }, sent := s.sent + 1 }) (Mem.sub HM.out (by repeat first | exact Sub.nil | refine Sub.cons (by with_reducible repeat first | exact ph | apply pt) ?_))
         rw [hc] at h9; exact h9
       exact (HBY.out.keeps HK.out fun k hk h => HNC.out (by rw [show k = sb from h] at hk; exact hk.1)).mono fun k hk => ⟨HCI.out k hk.1, Nat.lt_of_lt_of_le (HCL.out k hk.1) (Nat.le_trans HUK.out.size HK.out.size)⟩
theorem stake_any {A : Nat → Prop} (w : World) (sb : Nat) (s : Ss) (n : Nat) (hok : OkSs s n) (h : (sesR sb s).p A w) :
 Calls Tryz.prog 43 #[.pointer (some ⟨sb, 0, none⟩)] w (TakePost A w sb s) := by
 cases hc : s.closed with
 | true => exact take_closed w sb s hc h
 | false => exact take_open w sb s n hok hc h
theorem bools6 (a b c d e f : Bool) : [a, b, c, d, e, f].contains false = !(a && b && c && d && e && f) := by cases a <;> cases b <;> cases c <;> cases d <;> cases e <;> cases f <;> rfl
theorem snew_no (w : World) (member number fr most wait now : Int) (h : newOk member number fr most wait now = false) :
 Calls Tryz.prog 23 #[.int .i64 member, .int .i64 number, .int .i64 fr, .int .i64 most, .int .i64 wait, .int .i64 now] w fun e w' => e = .returned (.tuple #[.pointer none, .int .i64 2]) ∧ Ext w w' := by
 unfold newOk farN at h; obtain ⟨b2, hb2⟩ : ∃ b, decide (0 ≤ member ∧ member ≤ 15) = b := ⟨_, rfl⟩; obtain ⟨b3, hb3⟩ : ∃ b, decide (0 ≤ number ∧ number ≤ 2147483647) = b := ⟨_, rfl⟩; obtain ⟨b4, hb4⟩ : ∃ b, decide (0 ≤ fr ∧ fr ≤ 2147483647) = b := ⟨_, rfl⟩; obtain ⟨b5, hb5⟩ : ∃ b, decide (1 ≤ wait ∧ wait ≤ 1000000) = b := ⟨_, rfl⟩; obtain ⟨b6, hb6⟩ : ∃ b, decide (0 ≤ now ∧ now ≤ 4611686018427387904) = b := ⟨_, rfl⟩; rw [hb2, hb3, hb4, hb5, hb6] at h; have HB2 := Hd hb2; have HB3 := Hd hb3; have HB4 := Hd hb4; have HB5 := Hd hb5; have HB6 := Hd hb6; clear hb2 hb3 hb4 hb5 hb6; by_cases hm : 1 ≤ most ∧ most ≤ 64
 · rw [decide_eq_true hm] at h
   have hn := bools6 true b2 b3 b4 b5 b6; rw [h, Bool.not_false] at hn; have HN := Hd hn; obtain ⟨m, rfl⟩ : ∃ m : Nat, most = m := ⟨most.toNat, by omega⟩; have HM := Hd (Mem.start0 w); clear h hn; go_enter Tryz.func23, Tryz.ntmps23
   go_wp2_with fail; refine (new_r w m (by omega) (by omega)).mono ?_; rintro e w2 ⟨rb, rfl, hU⟩; replace HM := Hd (HM.out.ext hU.keepsTo); clear hU; go_wp2_with fail; refine cret (sin_int _ _ _ _) ?_; rw [HB2.out]; go_wp2_with fail; refine cret (sin_i64 _ _ _ _) ?_; rw [HB3.out]; go_wp2_with fail; refine cret (sin_i64 _ _ _ _) ?_; rw [HB4.out]; go_wp2_with fail; refine cret (sin_i64 _ _ _ _) ?_; rw [HB5.out]; go_wp2_with fail; refine cret (sin_i64 _ _ _ _) ?_; rw [HB6.out]; go_wp2_with fail; obtain ⟨kq, hkq⟩ : ∃ k, w2.heap.size = k := ⟨_, rfl⟩; refine nxt HM fun w3 M => ?_
   replace HM := M; clear M; rw [hkq] at HM ⊢; clear hkq; obtain ⟨_, hq⟩ := HM.out.get (r := cellsR kq 4 [.bool true, .bool b2, .bool b3, .bool b4, .bool b5, .bool b6]) pk; refine (contains_bools w3 kq [true, b2, b3, b4, b5, b6] (by simp) hq.2).mono ?_; rintro e w4 ⟨rfl, hE⟩; rw [HN.out]; replace HM := Hd (HM.out.ext hE); clear hE hq; go_wp2_with fail; go_ret2
   exact ⟨rfl, HM.out.extTo⟩
 · have hn := bools6 false b2 b3 b4 b5 b6
   rw [show (!(false && b2 && b3 && b4 && b5 && b6)) = true by simp] at hn; have HN := Hd hn; have HM := Hd (Mem.start0 w); clear h hn; go_enter Tryz.func23, Tryz.ntmps23
   go_wp2_with fail; refine (new_no w most (by omega)).mono ?_; rintro e w2 ⟨rfl, hw⟩; have hE2 : Ext w w2 := by rw [← hw]; exact Keeps.refl _ _
   replace HM := Hd (HM.out.ext hE2); clear hE2 hw; go_wp2_with fail; refine cret (sin_int _ _ _ _) ?_; rw [HB2.out]; go_wp2_with fail; refine cret (sin_i64 _ _ _ _) ?_; rw [HB3.out]; go_wp2_with fail; refine cret (sin_i64 _ _ _ _) ?_; rw [HB4.out]; go_wp2_with fail; refine cret (sin_i64 _ _ _ _) ?_; rw [HB5.out]; go_wp2_with fail; refine cret (sin_i64 _ _ _ _) ?_; rw [HB6.out]; go_wp2_with fail; obtain ⟨kq, hkq⟩ : ∃ k, w2.heap.size = k := ⟨_, rfl⟩; refine nxt HM fun w3 M => ?_
   replace HM := M; clear M; rw [hkq] at HM ⊢; clear hkq; obtain ⟨_, hq⟩ := HM.out.get (r := cellsR kq 4 [.bool false, .bool b2, .bool b3, .bool b4, .bool b5, .bool b6]) pk; refine (contains_bools w3 kq [false, b2, b3, b4, b5, b6] (by simp) hq.2).mono ?_; rintro e w4 ⟨rfl, hE⟩; rw [HN.out]; replace HM := Hd (HM.out.ext hE); clear hE hq; go_wp2_with fail; go_ret2
   exact ⟨rfl, HM.out.extTo⟩
theorem snew_yes (w : World) (member number fr most wait now : Int) (h : newOk member number fr most wait now = true) :
 Calls Tryz.prog 23 #[.int .i64 member, .int .i64 number, .int .i64 fr, .int .i64 most, .int .i64 wait, .int .i64 now] w fun e w' => ∃ sb, e = .returned (.tuple #[.pointer (some ⟨sb, 0, none⟩), .int .i64 0]) ∧ Upd NoB w w' (sesR sb (newS member number fr most.toNat wait now)) := by
 have hm : 1 ≤ most ∧ most ≤ 64 := by unfold newOk at h; simp only [Bool.and_eq_true, decide_eq_true_eq] at h; exact h.1.1.1.1.1
 unfold newOk farN at h; obtain ⟨b2, hb2⟩ : ∃ b, decide (0 ≤ member ∧ member ≤ 15) = b := ⟨_, rfl⟩; obtain ⟨b3, hb3⟩ : ∃ b, decide (0 ≤ number ∧ number ≤ 2147483647) = b := ⟨_, rfl⟩; obtain ⟨b4, hb4⟩ : ∃ b, decide (0 ≤ fr ∧ fr ≤ 2147483647) = b := ⟨_, rfl⟩; obtain ⟨b5, hb5⟩ : ∃ b, decide (1 ≤ wait ∧ wait ≤ 1000000) = b := ⟨_, rfl⟩; obtain ⟨b6, hb6⟩ : ∃ b, decide (0 ≤ now ∧ now ≤ 4611686018427387904) = b := ⟨_, rfl⟩; rw [hb2, hb3, hb4, hb5, hb6] at h; have HB2 := Hd hb2; have HB3 := Hd hb3; have HB4 := Hd hb4; have HB5 := Hd hb5; have HB6 := Hd hb6; clear hb2 hb3 hb4 hb5 hb6; rw [decide_eq_true hm] at h; have hn := bools6 true b2 b3 b4 b5 b6; rw [h, Bool.not_true] at hn; have HN := Hd hn; obtain ⟨m, rfl⟩ : ∃ m : Nat, most = m := ⟨most.toNat, by omega⟩; rw [Int.toNat_natCast]; have HM := Hd (Mem.start0 w); clear h hn; go_enter Tryz.func23, Tryz.ntmps23
 go_wp2_with fail; refine (new_r w m (by omega) (by omega)).mono ?_; rintro e w2 ⟨rb, rfl, hU⟩; replace HM := Hd (HM.out.newU hU); clear hU; go_wp2_with fail; refine cret (sin_int _ _ _ _) ?_; rw [HB2.out]; go_wp2_with fail; refine cret (sin_i64 _ _ _ _) ?_; rw [HB3.out]; go_wp2_with fail; refine cret (sin_i64 _ _ _ _) ?_; rw [HB4.out]; go_wp2_with fail; refine cret (sin_i64 _ _ _ _) ?_; rw [HB5.out]; go_wp2_with fail; refine cret (sin_i64 _ _ _ _) ?_; rw [HB6.out]; go_wp2_with fail; obtain ⟨kq, hkq⟩ : ∃ k, w2.heap.size = k := ⟨_, rfl⟩; refine nxt HM fun w3 M => ?_
 replace HM := M; clear M; rw [hkq] at HM ⊢; clear hkq; obtain ⟨_, hq⟩ := HM.out.get (r := cellsR kq 4 [.bool true, .bool b2, .bool b3, .bool b4, .bool b5, .bool b6]) pk; refine (contains_bools w3 kq [true, b2, b3, b4, b5, b6] (by simp) hq.2).mono ?_; rintro e w4 ⟨rfl, hE⟩; rw [HN.out]; replace HM := Hd (HM.out.ext hE); clear hE hq; go_wp2_with fail; refine nxt HM fun w5 M => ?_
 replace HM := M; clear M; go_ret2
 exact ⟨w4.heap.size, rfl, Mem.sesUpd (rb := rb) (bv := .slice none 0 0) (s := newS member number fr m wait now) (Mem.sub (HM.out.byeNil) sbI)⟩
theorem byeR.bytes {A : Nat → Prop} {w : World} {v : Value} {o : Option (List UInt8)} (h : (byeR v o).p A w) : Bytes w A v (o.getD []) := by
 rcases h with ⟨rfl, rfl, -⟩ | ⟨l, rfl, -, h⟩
 · exact bytes_nil0
 · exact bytR.bytes h
end Go.Proofs.YtoadjbgpfihoiaaGreatDoor
