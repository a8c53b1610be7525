/- The ring statements' question whether a ring stands as the document's: it does. Conditions: the ring lies as 'RingX' says, the document's as 'RefX' says. -/
import Derived.Test.YtocjnieehogcbaaActB
import Derived.BigFrameIn
import Derived.BigGuardIn
set_option linter.unusedVariables false
set_option maxHeartbeats 400000
namespace Go.Proofs.Ytocjnieehogcbaa
open Go.RowKit
attribute [local go_sem] Oper.semAt_some

theorem all_x {N : Nat → Prop} (w : World) (b : Nat) (R : AR) (h : RingX w N b R) (hx : ∀ x ∈ R.items, x.bytes.length ≤ 1000000) :
    Calls Try.prog 19 #[.pointer (some ⟨b, 0, none⟩)] w fun e w' =>
      e = .returned (.func (.func 41) #[] #[.pointer (some ⟨w.heap.size, 0, none⟩)]) ∧ SeqAt w' (fun k => w.heap.size ≤ k ∧ k < w'.heap.size) w.heap.size R.items ∧ Ext w w' :=
  let ⟨f, _, h1, _⟩ := h
  all_ring w b f R h1 hx
theorem lost_x {N : Nat → Prop} (w : World) (b : Nat) (R : AR) (h : RingX w N b R) :
    Calls Try.prog 23 #[.pointer (some ⟨b, 0, none⟩)] w fun e w' => e = .returned (.int .i64 (R.lost : Nat)) ∧ w = w' :=
  let ⟨f, _, h1, _⟩ := h
  lost_ring w b f R h1
theorem rlenX {M : Nat → Prop} (w : World) (v : Value) (R : AR) (h : RefX w M v R) (hl : R.items.length ≤ 1000) :
    Calls Try.prog 44 #[v] w fun e w' => e = .returned (.tuple #[.int .i64 (mains R.items : Nat), .int .i64 (sides R.items : Nat)]) ∧ Ext w w' :=
  let ⟨_, h1, h2⟩ := h
  rlen_any w v R h1 hl fun k hk => (h2 k hk).1

theorem RefX.itAt {w : World} {M : Nat → Prop} {R : AR} {a : Option Addr} {n c : Nat} {z0 z1 : Value} (h : RefX w M (.agg #[z0, .slice a n c, z1]) R) :
    n = R.items.length ∧ ∀ i (hi : i < R.items.length), ∃ A b o, a = some ⟨b, o, none⟩ ∧ R.items.length ≤ c ∧ b < w.heap.size ∧ ItemAt w A b (o + i * 3) R.items[i] := by
  obtain ⟨A, ⟨sv, he, hs⟩, hA⟩ := h
  obtain ⟨a', c', rfl, hat⟩ := hs.itAt
  simp only [Value.agg.injEq, Array.mk.injEq, List.cons.injEq, Value.slice.injEq] at he
  obtain ⟨-, ⟨rfl, rfl, rfl⟩, -⟩ := he
  refine ⟨rfl, fun i hi => ?_⟩
  obtain ⟨b, o, h1, h2, h3, h4⟩ := hat i hi
  exact ⟨A, b, o, h1, h2, (hA b h3).1, h4⟩
theorem seq_nil (w : World) (f : FuncId) (p : Option Addr) : (binOp .eql 52 (.func (.func f) #[] #[.pointer p]) .nilFunc).run Try.prog w = .ok (.bool false) w := by kernel_rfl

set_option maxRecDepth 100000 in
set_option maxHeartbeats 2000000 in
theorem is_any {M N : Nat → Prop} (w : World) (b : Nat) (R : AR) (v : Value) (hr : RingX w N b R) (hw : RefX w M v R) (hx : ∀ x ∈ R.items, x.bytes.length ≤ 1000000) :
    Calls Try.prog 22 #[.pointer (some ⟨b, 0, none⟩), v] w fun e w' => e = .returned (.bool true) ∧ Ext w w' := by
  refine (callsIn_wide (n := 9)).1 (callsIn_of_wp_marks Try.func22 rfl trivial ?_ rfl)
  simp only [Try.ntmps22, List.size_toArray, List.length_cons, List.length_nil, Nat.reduceAdd, Nat.reduceSub, Array.replicate_succ, Array.replicate_zero, List.push_toArray, List.append_toArray, List.nil_append, List.cons_append]
  have HR := Lib.hid hr
  have HW := Lib.hid hw
  have HX := Lib.hid hx
  obtain ⟨a, c, rfl⟩ := hw.len
  obtain ⟨hle1, hle2, hle3⟩ := hr.le
  have hms := mains_sides R.items
  obtain ⟨p, hp⟩ : ∃ p, mains R.items = p := ⟨_, rfl⟩
  obtain ⟨q, hq⟩ : ∃ q, sides R.items = q := ⟨_, rfl⟩
  rw [hp, hq] at hms
  have HP := Lib.hid hp
  have HQ := Lib.hid hq
  have gsub : IntKind.i64.wrap ((R.most : Int) - (p : Int)) = (R.most : Int) - (p : Int) := by rw [IntWalk.i64_in _ (by omega)]
  have gp : 0 ≤ (R.most : Int) - (p : Int) := by omega
  clear hr hw hx hp hq hms
  gi_wp2_with fail
  have ba0 := ((Box.new w 48 [.int .i64 (R.most : Int), .slice a R.items.length c, .int .i64 (R.lost : Int)]).alloc (Obj.cells #[.bool false] 4))
  have ba1 := (Box.new (w.alloc (Obj.cells #[.int .i64 (R.most : Int), .slice a R.items.length c, .int .i64 (R.lost : Int)] 48)) 4 [.bool false])
  have ea : Ext w ((w.alloc (Obj.cells #[.int .i64 (R.most : Int), .slice a R.items.length c, .int .i64 (R.lost : Int)] 48)).alloc (Obj.cells #[.bool false] 4)) := (((Keeps.refl NoB w).alloc _).alloc _)
  have sa : ((w.alloc (Obj.cells #[.int .i64 (R.most : Int), .slice a R.items.length c, .int .i64 (R.lost : Int)] 48)).alloc (Obj.cells #[.bool false] 4)).heap.size = w.heap.size + 2 := by simp
  simp only [World.size_alloc] at ba1
  generalize ((w.alloc (Obj.cells #[.int .i64 (R.most : Int), .slice a R.items.length c, .int .i64 (R.lost : Int)] 48)).alloc (Obj.cells #[.bool false] 4)) = w0 at ba0 ba1 ea sa ⊢
  have Sa := Lib.hid sa
  clear sa
  have HEa := Lib.hid ea
  have BA := Lib.hid ba0
  have BB := Lib.hid ba1
  clear ea ba0 ba1
  refine ⟨trivial, callsIn_wide.2 ((len_x w0 b R (HR.out.ext HEa.out) HX.out).mono ?_)⟩
  rintro e w1 ⟨rfl, hE⟩
  rw [HP.out, HQ.out]
  have HE1 := Lib.hid (HEa.out.ext hE)
  replace BA := Lib.hid (BA.out.ext hE)
  replace BB := Lib.hid (BB.out.ext hE)
  have hb0 := BA.out
  obtain ⟨c0, z0⟩ := hb0.reads
  have l0 := hb0.lt
  clear hE hb0
  gi_wp2_with fail
  refine ⟨trivial, callsIn_wide.2 ((rlenX w1 _ R (HW.out.ext HE1.out) (by omega)).mono ?_)⟩
  rintro e w2 ⟨rfl, hE⟩
  rw [HP.out, HQ.out]
  have HE2 := Lib.hid (HE1.out.ext hE)
  replace BA := Lib.hid (BA.out.ext hE)
  replace BB := Lib.hid (BB.out.ext hE)
  clear c0 z0 l0 hE
  have hb0 := BA.out
  obtain ⟨c0, z0⟩ := hb0.reads
  have l0 := hb0.lt
  clear hb0
  gi_wp2_with fail
  refine wpIn_wide.2 (wp_region_noPanic ?_)
  have hE0 : Keeps NoB w2 w2.drew := (Keeps.refl _ _).drew
  refine wp_region_plan [(0, 0), (0, 1), (0, 2), (0, 3), (0, 4), (0, 5), (0, 6), (0, 7), (0, 8), (0, 9), (0, 11), (1, 12), (0, 13), (0, 14), (2, 10), (0, 15), (0, 16), (0, 17), (0, 18), (0, 20), (1, 21), (2, 19), (0, 22), (0, 23)] [12, 21] [10, 19] [] (ClsE w2) (by kernel_rfl) (by kernel_rfl) (by kernel_rfl) rfl rfl (ClsE.of hE0) (fun _ _ _ _ _ h => h) ?_; simp only [planL, List.getElem?_toArray, List.getElem?_cons_succ, List.getElem?_cons_zero]
  refine plan_pure rfl (fun K hK => quiet_move' _ rfl (hK _ ?_)); clear hK K; simp only [Act.put, Act.eval, Array.getD_eq_getD_getElem?, List.getElem?_toArray, List.getElem?_cons_zero, List.getElem?_cons_succ, Option.getD_some, List.setIfInBounds_toArray, List.set_cons_zero, List.set_cons_succ]
  refine plan_pure rfl (fun K hK => quiet_move' _ rfl (hK _ ?_)); clear hK K; simp only [Act.put, Act.eval, Array.getD_eq_getD_getElem?, List.getElem?_toArray, List.getElem?_cons_zero, List.getElem?_cons_succ, Option.getD_some, List.setIfInBounds_toArray, List.set_cons_zero, List.set_cons_succ]
  refine plan_pure rfl (fun K hK => quiet_run (v := ?_) (fun W _ => ?_) (hK _ ?_)); rotate_left; (go_simp <;> with_reducible rfl); clear hK K; simp only [Act.put, List.setIfInBounds_toArray, List.set_cons_zero, List.set_cons_succ]
  refine plan_pure rfl (fun K hK => quiet_move' _ rfl (hK _ ?_)); clear hK K; simp only [Act.put, Act.eval, Array.getD_eq_getD_getElem?, List.getElem?_toArray, List.getElem?_cons_zero, List.getElem?_cons_succ, Option.getD_some, List.setIfInBounds_toArray, List.set_cons_zero, List.set_cons_succ]
  first
  | (refine plan_skip rfl ?_; simp only [Act.put, List.setIfInBounds_toArray, List.set_cons_zero, List.set_cons_succ])
  | (refine plan_pure rfl (fun K hK => quiet_move' _ rfl (hK _ ?_)); clear hK K; simp only [Act.put, Act.eval, Array.getD_eq_getD_getElem?, List.getElem?_toArray, List.getElem?_cons_zero, List.getElem?_cons_succ, Option.getD_some, List.setIfInBounds_toArray, List.set_cons_zero, List.set_cons_succ])
  first
  | (refine plan_skip rfl ?_; simp only [Act.put, List.setIfInBounds_toArray, List.set_cons_zero, List.set_cons_succ])
  | (refine plan_pure rfl (fun K hK => quiet_move' _ rfl (hK _ ?_)); clear hK K; simp only [Act.put, Act.eval, Array.getD_eq_getD_getElem?, List.getElem?_toArray, List.getElem?_cons_zero, List.getElem?_cons_succ, Option.getD_some, List.setIfInBounds_toArray, List.set_cons_zero, List.set_cons_succ])
  first
  | (refine plan_skip rfl ?_; simp only [Act.put, List.setIfInBounds_toArray, List.set_cons_zero, List.set_cons_succ])
  | (refine plan_pure rfl (fun K hK => quiet_run (v := ?_) (fun W _ => ?_) (hK _ ?_)); rotate_left; (go_simp <;> with_reducible rfl); clear hK K; simp only [Act.put, List.setIfInBounds_toArray, List.set_cons_zero, List.set_cons_succ])
  refine plan_pure rfl (fun K hK => quiet_run (v := ?_) (fun W _ => ?_) (hK _ ?_)); rotate_left; (go_simp <;> with_reducible rfl); clear hK K; simp only [Act.put, List.setIfInBounds_toArray, List.set_cons_zero, List.set_cons_succ]
  refine plan_pure rfl (fun K hK => quiet_move' _ rfl (hK _ ?_)); clear hK K; simp only [Act.put, Act.eval, Array.getD_eq_getD_getElem?, List.getElem?_toArray, List.getElem?_cons_zero, List.getElem?_cons_succ, Option.getD_some, List.setIfInBounds_toArray, List.set_cons_zero, List.set_cons_succ]
  first
  | (refine plan_skip rfl ?_; simp only [Act.put, List.setIfInBounds_toArray, List.set_cons_zero, List.set_cons_succ])
  | (refine plan_pure rfl (fun K hK => quiet_move' _ rfl (hK _ ?_)); clear hK K; simp only [Act.put, Act.eval, Array.getD_eq_getD_getElem?, List.getElem?_toArray, List.getElem?_cons_zero, Option.getD_some, List.setIfInBounds_toArray, List.set_cons_zero, List.set_cons_succ])
  first
  | (refine plan_skip rfl ?_; simp only [Act.put, List.setIfInBounds_toArray, List.set_cons_zero, List.set_cons_succ])
  | (refine plan_pure rfl (fun K hK => quiet_run (v := ?_) (fun W _ => ?_) (hK _ ?_)); rotate_left; (go_simp <;> with_reducible rfl); clear hK K; simp only [Act.put, List.setIfInBounds_toArray, List.set_cons_zero, List.set_cons_succ])
  first
  | (refine plan_skip rfl ?_; simp only [Act.put, List.setIfInBounds_toArray, List.set_cons_zero, List.set_cons_succ])
  | (refine plan_load rfl (fun K hK => quiet_runE (v := ?_) (fun W => ?_) (hK _ ?_)); rotate_left; (go_simp <;> with_reducible rfl); clear hK K; simp only [Act.put, List.setIfInBounds_toArray, List.set_cons_zero, List.set_cons_succ])
  first
  | (refine plan_skip rfl ?_; simp only [Act.put, List.setIfInBounds_toArray, List.set_cons_zero, List.set_cons_succ])
  | (refine plan_pure rfl (fun K hK => quiet_move' _ rfl (hK _ ?_)); clear hK K; simp only [Act.put, Act.eval, Array.getD_eq_getD_getElem?, List.getElem?_toArray, List.getElem?_cons_zero, List.getElem?_cons_succ, Option.getD_some, List.setIfInBounds_toArray, List.set_cons_zero, List.set_cons_succ])
  first
  | (refine plan_skip rfl ?_; simp only [Act.put, List.setIfInBounds_toArray, List.set_cons_zero, List.set_cons_succ])
  | (refine plan_pure rfl (fun K hK => quiet_run (v := ?_) (fun W _ => ?_) (hK _ ?_)); rotate_left; (go_simp <;> with_reducible rfl); clear hK K; simp only [Act.put, List.setIfInBounds_toArray, List.set_cons_zero, List.set_cons_succ])
  first
  | (refine plan_skip rfl ?_; simp only [Act.put, List.setIfInBounds_toArray, List.set_cons_zero, List.set_cons_succ])
  | (refine plan_does rfl (fun K hK => ?_))
  go_wp2_with fail
  refine (room_x _ b R (HR.out.ext (HE2.out.ext hE0)) HX.out).mono ?_
  rintro e w3 ⟨rfl, hE3⟩
  rw [HP.out]
  have hE03 : Ext w2 w3 := hE0.ext hE3
  have HE3 := Lib.hid hE03
  refine hK _ _ ⟨ClsE.of (by assumption), ?_⟩; clear hK K; try simp only [Act.put, List.setIfInBounds_toArray, List.set_cons_zero, List.set_cons_succ]
  first
  | (refine plan_skip rfl ?_; simp only [Act.put, List.setIfInBounds_toArray, List.set_cons_zero, List.set_cons_succ])
  | (refine plan_pure rfl (fun K hK => quiet_run (v := ?_) (fun W _ => ?_) (hK _ ?_)); rotate_left; (go_simp <;> with_reducible rfl); clear hK K; simp only [Act.put, List.setIfInBounds_toArray, List.set_cons_zero, List.set_cons_succ])
  refine plan_pure rfl (fun K hK => quiet_run (v := ?_) (fun W _ => ?_) (hK _ ?_)); rotate_left; (go_simp <;> with_reducible rfl); clear hK K; simp only [Act.put, List.setIfInBounds_toArray, List.set_cons_zero, List.set_cons_succ]
  refine plan_pure rfl (fun K hK => quiet_move' _ rfl (hK _ ?_)); clear hK K; simp only [Act.put, Act.eval, Array.getD_eq_getD_getElem?, List.getElem?_toArray, List.getElem?_cons_zero, List.getElem?_cons_succ, Option.getD_some, List.setIfInBounds_toArray, List.set_cons_zero, List.set_cons_succ]
  first
  | (refine plan_skip rfl ?_; simp only [Act.put, List.setIfInBounds_toArray, List.set_cons_zero, List.set_cons_succ])
  | (refine plan_pure rfl (fun K hK => quiet_move' _ rfl (hK _ ?_)); clear hK K; simp only [Act.put, Act.eval, Array.getD_eq_getD_getElem?, List.getElem?_toArray, List.getElem?_cons_zero, Option.getD_some, List.setIfInBounds_toArray, List.set_cons_zero, List.set_cons_succ])
  first
  | (refine plan_skip rfl ?_; simp only [Act.put, List.setIfInBounds_toArray, List.set_cons_zero, List.set_cons_succ])
  | (refine plan_pure rfl (fun K hK => quiet_run (v := ?_) (fun W _ => ?_) (hK _ ?_)); rotate_left; (go_simp <;> with_reducible rfl); clear hK K; simp only [Act.put, List.setIfInBounds_toArray, List.set_cons_zero, List.set_cons_succ])
  first
  | (refine plan_skip rfl ?_; simp only [Act.put, List.setIfInBounds_toArray, List.set_cons_zero, List.set_cons_succ])
  | (refine plan_load rfl (fun K hK => quiet_runE (v := ?_) (fun W => ?_) (hK _ ?_)); rotate_left; (go_simp <;> with_reducible rfl); clear hK K; simp only [Act.put, List.setIfInBounds_toArray, List.set_cons_zero, List.set_cons_succ])
  first
  | (refine plan_skip rfl ?_; simp only [Act.put, List.setIfInBounds_toArray, List.set_cons_zero, List.set_cons_succ])
  | (refine plan_does rfl (fun K hK => ?_))
  go_wp2_with fail
  refine (lost_x _ b R (HR.out.ext (HE2.out.ext HE3.out))).mono ?_
  rintro e w4 ⟨rfl, rfl⟩
  refine hK _ _ ⟨ClsE.of (by assumption), ?_⟩; clear hK K; try simp only [Act.put, List.setIfInBounds_toArray, List.set_cons_zero, List.set_cons_succ]
  first
  | (refine plan_skip rfl ?_; simp only [Act.put, List.setIfInBounds_toArray, List.set_cons_zero, List.set_cons_succ])
  | (refine plan_pure rfl (fun K hK => quiet_run (v := ?_) (fun W _ => ?_) (hK _ ?_)); rotate_left; (go_simp <;> with_reducible rfl); clear hK K; simp only [Act.put, List.setIfInBounds_toArray, List.set_cons_zero, List.set_cons_succ])
  refine plan_pure rfl (fun K hK => quiet_run (v := ?_) (fun W _ => ?_) (hK _ ?_)); rotate_left; (go_simp <;> with_reducible rfl); clear hK K; simp only [Act.put, List.setIfInBounds_toArray, List.set_cons_zero, List.set_cons_succ]
  refine plan_nil ?_; simp only [tailL, List.filterMap_nil]
  go_wp2_with fail
  refine NoPanic.ok ?_
  have HE4 := Lib.hid (HE2.out.ext HE3.out)
  replace BA := Lib.hid (BA.out.ext HE3.out)
  replace BB := Lib.hid (BB.out.ext HE3.out)
  have hl4 := BA.out.lt
  have hl4' := BB.out.lt
  clear c0 z0 l0 gsub gp
  gi_wp2_with fail
  have bb0 := (Box.new w3 3 [.int .i64 0])
  have eb : Ext w3 (w3.alloc (Obj.cells #[.int .i64 0] 3)) := ((Keeps.refl NoB w3).alloc _)
  have sb : (w3.alloc (Obj.cells #[.int .i64 0] 3)).heap.size = w3.heap.size + 1 := by simp
  generalize (w3.alloc (Obj.cells #[.int .i64 0] 3)) = w5 at bb0 eb sb ⊢
  have Sb := Lib.hid sb
  clear sb
  have HE5 := Lib.hid (HE4.out.ext eb)
  replace BA := Lib.hid (BA.out.ext eb)
  replace BB := Lib.hid (BB.out.ext eb)
  have BC := Lib.hid bb0
  clear eb bb0
  refine ⟨trivial, callsIn_wide.2 ((all_x w5 b R (HR.out.ext HE5.out) HX.out).mono ?_)⟩
  rintro e w6 ⟨rfl, -, hE⟩
  have HE6 := Lib.hid (HE5.out.ext hE)
  replace BA := Lib.hid (BA.out.ext hE)
  replace BB := Lib.hid (BB.out.ext hE)
  replace BC := Lib.hid (BC.out.ext hE)
  have h56 := hE.size
  have hsn := seq_nil w6 41 (some ⟨w5.heap.size, 0, none⟩)
  clear hE
  gi_wp2_with fail
  refine ⟨trivial, callsIn_wide.2 ((all_x w6 b R (HR.out.ext HE6.out) HX.out).mono ?_)⟩
  rintro e w7 ⟨rfl, hs, hE⟩
  have HS := Lib.hid hs
  have HE7 := Lib.hid (HE6.out.ext hE)
  replace BA := Lib.hid (BA.out.ext hE)
  replace BB := Lib.hid (BB.out.ext hE)
  replace BC := Lib.hid (BC.out.ext hE)
  have h67 := hE.size
  have hl7 := BA.out.lt
  have hl7' := BB.out.lt
  have hl7'' := BC.out.lt
  clear hE hs hsn
  gi_wp2_with fail
  have hsz := Sa.out
  have hsz3 := Sb.out
  have h3w := HE4.out.size
  refine wpIn_range rfl (by omega) (gf := 41) (lb := #[.pointer (some ⟨w6.heap.size, 0, none⟩)]) rfl trivial (enters_of Try.func41 (by kernel_rfl) rfl)
    (S := OneB w3.heap.size) (iter_ring w7 w6.heap.size R.items HS.out (by unfold OneB; omega) (fun k h1 h2 => by unfold OneB at h2; omega) HX.out (by omega)) (by rintro x v W0 W ⟨bv, rfl, _⟩; rfl)
    (fun k W => Keeps (OneB w3.heap.size) w7 W ∧ Box W w3.heap.size 3 [.int .i64 (k : Int)])
    (fun _ _ _ => False) (fun k W h => h.1)
    (fun k W W' h hk => ⟨h.1.then hk (fun i hi h => by unfold OneB at h ⊢; omega), h.2.keeps hk (by unfold OneB; omega)⟩)
    (fun _ _ _ _ h _ => h) ⟨Keeps.refl _ _, BC.out⟩ ?_ ?_ (fun _ _ _ _ h _ => h.elim)
  · rintro k hk v W0 W - hE0 ⟨hkW, hb0⟩ ⟨bv, rfl, hbv, hwr, hn⟩ hlt0 hlt
    obtain ⟨av, cv, rfl⟩ := hbv.len
    have HKW := Lib.hid hkW
    have HB0 := Lib.hid hb0
    have HBV := Lib.hid hbv
    have h7W := hkW.size
    clear hkW hb0 hbv hwr hE0
    obtain ⟨y, hy⟩ : ∃ y, R.items[k] = y := ⟨_, rfl⟩
    rw [hy] at HBV ⊢
    have HY := Lib.hid hy
    clear hy
    clear hsz hsz3
    gi_wp2_with fail
    have hsz := Sa.out
    refine ⟨(Keeps.refl _ _).alloc _, fun W2 hW2 => ?_⟩
    have bx := (Box.new W 31 [.bool y.side, .int .i64 y.key, .slice av y.bytes.length cv]).keeps hW2 (by unfold OneB; omega)
    have b0 := (HB0.out.alloc (Obj.cells #[.bool y.side, .int .i64 y.key, .slice av y.bytes.length cv] 31)).keeps hW2 (by unfold OneB; omega)
    have bw := ((BA.out.keeps HKW.out (by unfold OneB; omega)).alloc (Obj.cells #[.bool y.side, .int .i64 y.key, .slice av y.bytes.length cv] 31)).keeps hW2 (by unfold OneB; omega)
    have hkW2 : Keeps (OneB w3.heap.size) w7 W2 := (HKW.out.alloc _).then hW2 (fun i hi h => by unfold OneB at h; omega)
    have hEW2 : Ext w W2 := HE7.out.then hkW2 (fun i hi h => by unfold OneB at h; omega)
    have hbv2 := ((HBV.out.keeps ((Keeps.refl NoB W).alloc (Obj.cells #[.bool y.side, .int .i64 y.key, .slice av y.bytes.length cv] 31)) (fun _ _ => noB _)).keeps hW2 (fun g hg h2 => by unfold OneB at h2; omega))
    obtain ⟨-, hat⟩ := (HW.out.ext hEW2).itAt
    obtain ⟨A, bl, ol, rfl, hc, hAb, i1, i2, bq, i3, i4⟩ := hat k hk
    rw [HY.out] at i1 i2 i4
    obtain ⟨aq, cq, rfl⟩ := i4.len
    have HI := Lib.hid i4
    have HV2 := Lib.hid hbv2
    have HK2 := Lib.hid hkW2
    obtain ⟨cx, zx⟩ := bx.reads
    obtain ⟨c0, z0⟩ := b0.reads
    obtain ⟨c1, z1⟩ := bw.reads
    have lx := bx.lt
    have l0 := b0.lt
    have l1 := bw.lt
    have C0 := Lib.hid b0
    have g0 : decide (R.items.length ≤ k) = false := by simp; omega
    have g1 : (k : Int) < (R.items.length : Int) := by omega
    have hk1000 : k ≤ 1000 := by omega
    have HSZ := Lib.hid hsz
    clear hat i4 hbv2 hkW2 bx b0 bw hW2 hsz hEW2
    gi_wp2_with fail
    have hE0' : Keeps NoB W2 W2.drew := (Keeps.refl _ _).drew
    have hE0 : Keeps NoB W2 W2.drew := (Keeps.refl _ _).drew
    refine wpIn_region_plan [(3, 0), (0, 1), (3, 2), (0, 3), (0, 4), (0, 5), (3, 6), (0, 7), (3, 8), (3, 9), (0, 10), (3, 11)] [] [12, 13, 14] [12, 13, 14] (ClsE W2) (by kernel_rfl) (by rintro ⟨_, _, h⟩; exact h) (by kernel_rfl) (by kernel_rfl) (by kernel_rfl) rfl rfl (ClsE.of hE0) (fun _ _ _ d _ h => by cases d <;> exact h) ?_; simp only [planL, List.getElem?_toArray, List.getElem?_cons_succ, List.getElem?_cons_zero]
    refine plan_exact rfl (fun K hK => quiet_runX (v := ?_) ?_ (hK _ ?_)); rotate_left; (go_simp <;> with_reducible rfl); clear hK K; simp only [Act.put, List.setIfInBounds_toArray, List.set_cons_zero, List.set_cons_succ]
    refine plan_pure rfl (fun K hK => quiet_run (v := ?_) (fun W _ => ?_) (hK _ ?_)); rotate_left; (go_simp <;> with_reducible rfl); clear hK K; simp only [Act.put, List.setIfInBounds_toArray, List.set_cons_zero, List.set_cons_succ]
    refine plan_exact rfl (fun K hK => quiet_runX (v := ?_) ?_ (hK _ ?_)); rotate_left; (go_simp <;> with_reducible rfl); clear hK K; simp only [Act.put, List.setIfInBounds_toArray, List.set_cons_zero, List.set_cons_succ]
    refine plan_pure rfl (fun K hK => quiet_run (v := ?_) (fun W _ => ?_) (hK _ ?_)); rotate_left; (go_simp <;> with_reducible rfl); clear hK K; simp only [Act.put, List.setIfInBounds_toArray, List.set_cons_zero, List.set_cons_succ]
    refine plan_pure rfl (fun K hK => quiet_run (v := ?_) (fun W _ => ?_) (hK _ ?_)); rotate_left; (go_simp <;> with_reducible rfl); clear hK K; simp only [Act.put, List.setIfInBounds_toArray, List.set_cons_zero, List.set_cons_succ]
    refine plan_pure rfl (fun K hK => quiet_move' _ rfl (hK _ ?_)); clear hK K; simp only [Act.put, Act.eval, Array.getD_eq_getD_getElem?, List.getElem?_toArray, List.getElem?_cons_zero, List.getElem?_cons_succ, Option.getD_some, List.setIfInBounds_toArray, List.set_cons_zero, List.set_cons_succ]
    first
    | (refine plan_skip rfl ?_; simp only [Act.put, List.setIfInBounds_toArray, List.set_cons_zero, List.set_cons_succ])
    | (refine plan_exact rfl (fun K hK => quiet_runX (v := ?_) ?_ (hK _ ?_)); rotate_left; (go_simp <;> with_reducible rfl); clear hK K; simp only [Act.put, List.setIfInBounds_toArray, List.set_cons_zero, List.set_cons_succ])
    first
    | (refine plan_skip rfl ?_; simp only [Act.put, List.setIfInBounds_toArray, List.set_cons_zero, List.set_cons_succ])
    | (refine plan_pure rfl (fun K hK => quiet_run (v := ?_) (fun W _ => ?_) (hK _ ?_)); rotate_left; (go_simp <;> with_reducible rfl); clear hK K; simp only [Act.put, List.setIfInBounds_toArray, List.set_cons_zero, List.set_cons_succ])
    first
    | (refine plan_skip rfl ?_; simp only [Act.put, List.setIfInBounds_toArray, List.set_cons_zero, List.set_cons_succ])
    | (refine plan_exact rfl (fun K hK => quiet_runX (v := ?_) ?_ (hK _ ?_)); rotate_left; (go_simp <;> with_reducible rfl); clear hK K; simp only [Act.put, List.setIfInBounds_toArray, List.set_cons_zero, List.set_cons_succ])
    first
    | (refine plan_skip rfl ?_; simp only [Act.put, List.setIfInBounds_toArray, List.set_cons_zero, List.set_cons_succ])
    | (refine plan_exact rfl (fun K hK => quiet_runX (v := ?_) ?_ (hK _ ?_)); rotate_left; (go_simp <;> with_reducible rfl); clear hK K; simp only [Act.put, List.setIfInBounds_toArray, List.set_cons_zero, List.set_cons_succ])
    first
    | (refine plan_skip rfl ?_; simp only [Act.put, List.setIfInBounds_toArray, List.set_cons_zero, List.set_cons_succ])
    | (refine plan_pure rfl (fun K hK => quiet_run (v := ?_) (fun W _ => ?_) (hK _ ?_)); rotate_left; (go_simp <;> with_reducible rfl); clear hK K; simp only [Act.put, List.setIfInBounds_toArray, List.set_cons_zero, List.set_cons_succ])
    first
    | (refine plan_skip rfl ?_; simp only [Act.put, List.setIfInBounds_toArray, List.set_cons_zero, List.set_cons_succ])
    | (refine plan_exact rfl (fun K hK => quiet_runX (v := ?_) ?_ (hK _ ?_)); rotate_left; (go_simp <;> with_reducible rfl); clear hK K; simp only [Act.put, List.setIfInBounds_toArray, List.set_cons_zero, List.set_cons_succ])
    refine plan_nil ?_; simp only [tailL, List.filterMap_cons, List.filterMap_nil, List.getElem?_toArray, List.getElem?_cons_succ, List.getElem?_cons_zero]; change wpList _ _ _ (_ :: _ :: _ :: []) _ _
    go_wp2_with fail
    refine (same_item _ y y _ _ ⟨_, rfl, HV2.out.keeps hE0' (fun _ _ => noB _)⟩ ⟨_, rfl, HI.out.keeps hE0' (fun _ _ => noB _)⟩).mono ?_
    rintro e W3 ⟨rfl, hE3⟩
    rw [sameI_self]
    have hE03 : Ext W2 W3 := hE0'.ext hE3
    have HE3' := Lib.hid hE03
    clear hE3 hE03 hE0'
    go_wp2_with fail
    have C3 := Lib.hid (C0.out.ext HE3'.out)
    have HK3 := Lib.hid (HK2.out.ext HE3'.out)
    have hc3 := C3.out
    obtain ⟨d0, y0⟩ := hc3.reads
    have l3 := hc3.lt
    clear c0 z0 c1 z1 cx zx lx l0 l1 hc3 i1 i2
    gi_wp2_with fail
    refine ⟨(Ext.keeps HE3'.out).setCell _ _ (.inl (.inl ⟨by show w3.heap.size < w7.heap.size; omega, rfl⟩)), HK3.out.setCell _ _ (.inl rfl), ?_⟩
    have := C3.out.set 0 (.int .i64 ((k : Int) + 1))
    simpa using this
  · rintro W ⟨hkW, hb0⟩ hm
    have bw := BA.out.keeps hkW (by unfold OneB; omega)
    have br := BB.out.keeps hkW (by unfold OneB; omega)
    obtain ⟨c0, z0⟩ := hb0.reads
    obtain ⟨c1, z1⟩ := bw.reads
    obtain ⟨c2, z2⟩ := br.reads
    have l0 := hb0.lt
    have l1 := bw.lt
    have l2 := br.lt
    have HK := Lib.hid hkW
    have HM := Lib.hid hm
    have C2 := Lib.hid br
    clear hkW hb0 bw br hm hsz hsz3
    gi_wp2_with fail
    refine leaves_marks [w7.heap.size] _ (by simp) ?_ ?_
    · intro D hD
      obtain rfl : D = w7.heap.size := by simpa using hD
      exact HM.out.keeps (S := OneB (w.heap.size + 1)) ((Keeps.refl _ _).setOne _ _) (by unfold OneB; omega)
    · intro w' hk
      have q0 : Box w' (w.heap.size + 1) 4 [.bool true] := by
        refine Box.keeps (w := _) ?_ hk (by simp; omega)
        exact C2.out.set 0 (.bool true)
      refine ⟨.bool true, ?_, rfl, ?_⟩
      · simp [results, Try.results22, go_sem, q0.reads.1]
      · have h1 := (HE7.out.then HK.out (fun i hi h => by unfold OneB at h; omega)).then ((Keeps.refl (OneB (w.heap.size + 1)) W).setOne 0 (.bool true)) (fun i hi h => by unfold OneB at h; omega)
        exact h1.then hk (fun i hi h => by simp at h; omega)
end Go.Proofs.Ytocjnieehogcbaa
