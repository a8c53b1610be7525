/- Texts Ring, RingB, one behind the other. Conditions: as each says. -/
import Derived.Test.YtoadjbgpfihoiaaGreatDoorPlJ
set_option linter.unusedVariables false
set_option linter.unusedSimpArgs false
set_option maxHeartbeats 8000000
set_option maxRecDepth 100000
namespace Go.Proofs.YtoadjbgpfihoiaaGreatDoor
open Go.RowKit
section
structure It where
 side : Bool
 key : Int
 bytes : List UInt8
structure AR where
 most : Nat
 lost : Nat
 items : List It
def ItemV (w : World) (A : Nat → Prop) (v : Value) (x : It) : Prop := ∃ bv, v = .agg #[.bool x.side, .int .i64 x.key, bv] ∧ Bytes w A bv x.bytes
def ItemAt (w : World) (A : Nat → Prop) (b o : Nat) (x : It) : Prop :=
 w.cell? ⟨b, o, none⟩ = some (.bool x.side) ∧ w.cell? ⟨b, o + 1, none⟩ = some (.int .i64 x.key) ∧ BytesAt w A b (o + 2) x.bytes
structure RingAt (w : World) (A : Nat → Prop) (b f : Nat) (R : AR) : Prop where
 fz : ∀ o, w.frozen? ⟨b, o, none⟩ = false
 has : ∀ o, o < 196 → ∃ v, w.cell? ⟨b, o, none⟩ = some v
 c0 : w.cell? ⟨b, 0, none⟩ = some (.int .i64 (f : Int))
 c1 : w.cell? ⟨b, 1, none⟩ = some (.int .i64 (R.items.length : Int))
 c2 : w.cell? ⟨b, 2, none⟩ = some (.int .i64 (R.lost : Int))
 c3 : w.cell? ⟨b, 3, none⟩ = some (.int .i64 (R.most : Int))
 hf : f < R.most
 hm : R.most ≤ 64
 hl : R.items.length ≤ R.most
 it : ∀ i (h : i < R.items.length), ItemAt w A b (4 + ((f + i) % R.most) * 3) R.items[i]
section
variable {w w' : World} {S A A' : Nat → Prop} {b o f : Nat} {x : It} {v : Value} {R : AR} {l : List UInt8}
theorem BytesAt.keeps (h : BytesAt w A b o l) (hk : Keeps S w w') (hb : ¬ S b) (hA : ∀ k, A k → ¬ S k) : BytesAt w' A b o l :=
 let ⟨v, h1, h2⟩ := h
 ⟨v, hk.cell hb h1, h2.keeps hk hA⟩
theorem ItemAt.keeps (h : ItemAt w A b o x) (hk : Keeps S w w') (hb : ¬ S b) (hA : ∀ k, A k → ¬ S k) : ItemAt w' A b o x :=
 ⟨hk.cell hb h.1, hk.cell hb h.2.1, h.2.2.keeps hk hb hA⟩
theorem ItemAt.mono (h : ItemAt w A b o x) (hA : ∀ k, A k → A' k) : ItemAt w A' b o x :=
 ⟨h.1, h.2.1, let ⟨v, h1, h2⟩ := h.2.2; ⟨v, h1, h2.mono hA⟩⟩
theorem ItemV.keeps (h : ItemV w A v x) (hk : Keeps S w w') (hA : ∀ k, A k → ¬ S k) : ItemV w' A v x :=
 let ⟨bv, h1, h2⟩ := h
 ⟨bv, h1, h2.keeps hk hA⟩
theorem ItemV.mono (h : ItemV w A v x) (hA : ∀ k, A k → A' k) : ItemV w A' v x :=
 let ⟨bv, h1, h2⟩ := h
 ⟨bv, h1, h2.mono hA⟩
theorem RingAt.lt (h : RingAt w A b f R) : b < w.heap.size := World.block_lt_of_cell? _ _ h.c0
theorem RingAt.keeps (h : RingAt w A b f R) (hk : Keeps S w w') (hb : ¬ S b) (hA : ∀ k, A k → ¬ S k) : RingAt w' A b f R :=
 ⟨fun o => (hk.frozen hb h.lt).trans (h.fz o), fun o ho => let ⟨v, hv⟩ := h.has o ho; ⟨v, hk.cell hb hv⟩, hk.cell hb h.c0, hk.cell hb h.c1, hk.cell hb h.c2, hk.cell hb h.c3, h.hf, h.hm, h.hl,
  fun i hi => (h.it i hi).keeps hk hb hA⟩
theorem RingAt.ext (h : RingAt w A b f R) (hk : Ext w w') : RingAt w' A b f R := h.keeps hk (noB b) fun _ _ => noB _
theorem RingAt.mono (h : RingAt w A b f R) (hA : ∀ k, A k → A' k) : RingAt w A' b f R :=
 { h with it := fun i hi => (h.it i hi).mono hA }
end
theorem mod_ne {f i n m : Nat} (hi : i < n) (hn : n < m) : (f + i) % m ≠ (f + n) % m := by
 intro h; have h1 : ((f + n) - (f + i)) % m = 0 := Nat.sub_mod_eq_zero_of_mod_eq h.symm; rw [show (f + n) - (f + i) = n - i by omega, Nat.mod_eq_of_lt (by omega)] at h1; omega
theorem RingAt.pushed {w : World} {A B : Nat → Prop} {b f q : Nat} {R : AR} {x : It} {bv : Value} (h : RingAt w A b f R) (hq : (f + R.items.length) % R.most = q) (hlen : R.items.length < R.most) (hb : Bytes w B bv x.bytes) (hA : ¬ A b) (hB : ¬ B b) :
 RingAt ((((w.setCell ⟨b, 4 + q * 3, none⟩ (.bool x.side)).setCell ⟨b, 4 + q * 3 + 1, none⟩ (.int .i64 x.key)).setCell ⟨b, 4 + q * 3 + 2, none⟩ bv).setCell ⟨b, 1, none⟩ (.int .i64 (R.items.length + 1)))
  (fun k => A k ∨ B k) b f { R with items := R.items ++ [x] } := by
 have hm := h.hm; have hq64 : q < 64 := by have := Nat.mod_lt (f + R.items.length) (show 0 < R.most by omega); omega
 have hk : Keeps (OneB b) w ((((w.setCell ⟨b, 4 + q * 3, none⟩ (.bool x.side)).setCell ⟨b, 4 + q * 3 + 1, none⟩ (.int .i64 x.key)).setCell ⟨b, 4 + q * 3 + 2, none⟩ bv).setCell ⟨b, 1, none⟩ (.int .i64 (R.items.length + 1))) :=
  ((((Keeps.refl (OneB b) w).setOne _ _).setOne _ _).setOne _ _).setOne _ _
 have hAn : ∀ k, A k → ¬ OneB b k := fun k h1 h2 => hA (by unfold OneB at h2; rwa [← h2])
 have hBn : ∀ k, B k → ¬ OneB b k := fun k h1 h2 => hB (by unfold OneB at h2; rwa [← h2])
 have hhas : ∀ o, o < 196 → ∃ v, ((((w.setCell ⟨b, 4 + q * 3, none⟩ (.bool x.side)).setCell ⟨b, 4 + q * 3 + 1, none⟩ (.int .i64 x.key)).setCell ⟨b, 4 + q * 3 + 2, none⟩ bv).setCell ⟨b, 1, none⟩ (.int .i64 (R.items.length + 1))).cell? ⟨b, o, none⟩ = some v :=
  fun o ho => has_set _ (has_set _ (has_set _ (has_set _ (h.has o ho))))
 have sm : ∀ o, o < 196 → (w.cell? ⟨b, o, none⟩).isSome = true := fun o ho => by obtain ⟨v, hv⟩ := h.has o ho; rw [hv]; rfl
 refine ⟨fun o => by simp [h.fz], hhas, ?_, ?_, ?_, ?_, h.hf, h.hm, by simp; omega, ?_⟩
 · rw [cell_keep _ _ _ _ _ _ (by omega), cell_keep _ _ _ _ _ _ (by omega), cell_keep _ _ _ _ _ _ (by omega), cell_keep _ _ _ _ _ _ (by omega)]; exact h.c0
 · rw [cell_put _ _ _ _ (by rw [cell_keep _ _ _ _ _ _ (by omega), cell_keep _ _ _ _ _ _ (by omega), cell_keep _ _ _ _ _ _ (by omega)]; exact sm 1 (by omega))]; simp
 · rw [cell_keep _ _ _ _ _ _ (by omega), cell_keep _ _ _ _ _ _ (by omega), cell_keep _ _ _ _ _ _ (by omega), cell_keep _ _ _ _ _ _ (by omega)]; exact h.c2
 · rw [cell_keep _ _ _ _ _ _ (by omega), cell_keep _ _ _ _ _ _ (by omega), cell_keep _ _ _ _ _ _ (by omega), cell_keep _ _ _ _ _ _ (by omega)]; exact h.c3
 · intro i hi
   simp only [List.length_append, List.length_cons, List.length_nil] at hi; by_cases hil : i < R.items.length
   · have hne := mod_ne (f := f) hil hlen
     rw [hq] at hne; simp only [List.getElem_append_left hil]; obtain ⟨i1, i2, v, i3, i4⟩ := h.it i hil; refine ⟨?_, ?_, v, ?_, (i4.keeps hk hAn).mono fun k hk => .inl hk⟩; all_goals rw [cell_keep _ _ _ _ _ _ (by omega), cell_keep _ _ _ _ _ _ (by omega), cell_keep _ _ _ _ _ _ (by omega), cell_keep _ _ _ _ _ _ (by omega)]
     all_goals assumption
   · obtain rfl : i = R.items.length := by omega
     simp only [List.getElem_append_right (Nat.le_refl _), Nat.sub_self, List.getElem_cons_zero]; show ItemAt _ _ b (4 + ((f + R.items.length) % R.most) * 3) x
     rw [hq]; refine ⟨?_, ?_, bv, ?_, (hb.keeps hk hBn).mono fun k hk => .inr hk⟩
     · rw [cell_keep _ _ _ _ _ _ (by omega), cell_keep _ _ _ _ _ _ (by omega), cell_keep _ _ _ _ _ _ (by omega), cell_put _ _ _ _ (sm _ (by omega))]
     · rw [cell_keep _ _ _ _ _ _ (by omega), cell_keep _ _ _ _ _ _ (by omega), cell_put _ _ _ _ (by rw [cell_keep _ _ _ _ _ _ (by omega)]; exact sm _ (by omega))]
     · rw [cell_keep _ _ _ _ _ _ (by omega), cell_put _ _ _ _ (by rw [cell_keep _ _ _ _ _ _ (by omega), cell_keep _ _ _ _ _ _ (by omega)]; exact sm _ (by omega))]
theorem round_any (n s : Nat) (w : World) (h1 : 1 ≤ s) (hn : n ≤ 1000) (hs : s ≤ 64) :
 Calls Tryz.prog 169 #[.int .i64 (n : Int), .int .i64 (s : Int)] w fun e w' => e = .returned (.int .i64 ((n % s : Nat) : Int)) ∧ w = w' := by
 have e : ((n : Int)).tmod (s : Int) = ((n % s : Nat) : Int) := by rw [Int.tmod_eq_emod_of_nonneg (by omega)]; rfl
 go_enter Tryz.func169, Tryz.ntmps169
 go_wp2
 all_goals go_ret
 all_goals exact ⟨by first | rfl | simp, rfl⟩
theorem none_ring {A : Nat → Prop} {b f : Nat} {R : AR} {w : World} (h : RingAt w A b f R) :
 Calls Tryz.prog 157 #[.pointer (some ⟨b, 0, none⟩)] w fun e w' => e = .returned (.bool false) ∧ w = w' := by
 have h3 := h.c3; have hz : ((R.most : Int) == 0) = false := by have := h.hf; rw [beq_eq_false_iff_ne]; omega
 clear h; go_enter Tryz.func157, Tryz.ntmps157
 go_wp2
 all_goals go_ret
 all_goals exact ⟨rfl, rfl⟩
theorem at_ring {A : Nat → Prop} {b f : Nat} {R : AR} {w : World} (h : RingAt w A b f R) (i : Nat) (hi : i ≤ 100) (j : Int) (hj : j = (i : Int)) (q : Nat) (hqe : (f + i) % R.most = q) :
 Calls Tryz.prog 164 #[.pointer (some ⟨b, 0, none⟩), .int .i64 j] w fun e w' => e = .returned (.pointer (some ⟨b, 4 + q * 3, none⟩)) ∧ Ext w w' := by
 subst hj; have g0 := h.c0; have g3 := h.c3; have hf := h.hf; have hm := h.hm; have hlt : (f + i) % R.most < R.most := Nat.mod_lt _ (by omega); have hq : q < 64 := by omega
 have HQ : Hid ((f + i) % R.most = q) := hqe; clear h hlt hqe; have hs : IntKind.i64.wrap ((f : Int) + i) = ((f + i : Nat) : Int) := by rw [IntWalk.i64_in _ (by omega)]; simp
 go_enter Tryz.func164, Tryz.ntmps164
 go_wp2_with fail; go_quiet ((go_at_call 169; exact Calls.quiet_of_same ((round_any (f + i) R.most _ (by omega) (by omega) (by omega)).mono (by rintro e w' ⟨rfl, rfl⟩; rw [HQ.out]; exact ⟨rfl, rfl⟩))))
 go_wp2
 go_ret; exact ⟨rfl, Ext.of_drewN ⟨_, rfl⟩⟩
theorem copied_one {A : Nat → Prop} (w : World) (b : Nat) (l : List UInt8) (h : BytesAt w A b 0 l) (hl : l.length ≤ 1000000) :
 Calls Tryz.prog 216 #[.slice (some ⟨b, 0, none⟩) 1 1] w fun e w' =>
  ∃ v', e = .returned v' ∧ Bytes w' (fun k => w.heap.size ≤ k ∧ k < w'.heap.size) v' l ∧ Ext w w' ∧ Wr w' v' := by
 have hc := concat_some A b 0 1 1 [l] w rfl (by omega) (by simp [sumLen]; omega) (by intro i hi; simp at hi; subst hi; exact h); simp only [List.flatten_cons, List.flatten_nil, List.append_nil] at hc; have HC := Hd hc; clear hc h; go_enter Tryz.func216, Tryz.ntmps216
 go_wp2_with fail; refine HC.out.mono ?_; rintro e w1 ⟨v', rfl, h1, h2, h3⟩; have H1 := Hd h1; have H2 := Hd h2; have H3 := Hd h3; clear h1 h2 h3; go_wp2
 go_ret; exact ⟨_, rfl, H1.out, H2.out, H3.out⟩
theorem told_w {A : Nat → Prop} (w : World) (x : It) (v : Value) (hv : ItemV w A v x) (hl : x.bytes.length ≤ 1000000) :
 Calls Tryz.prog 163 #[v] w fun e w' =>
  ∃ v' bv', e = .returned v' ∧ v' = .agg #[.bool x.side, .int .i64 x.key, bv'] ∧ Bytes w' (fun k => w.heap.size ≤ k ∧ k < w'.heap.size) bv' x.bytes ∧ Ext w w' ∧ Wr w' bv' := by
 obtain ⟨bv, rfl, hb⟩ := hv; obtain ⟨a, c, rfl⟩ := hb.len; have HB := Hd hb; clear hb; go_enter Tryz.func163, Tryz.ntmps163
 go_wp2_with fail
 have e0 : Ext w ((((w.alloc (Obj.cells #[Value.bool x.side, Value.int IntKind.i64 x.key, .slice a x.bytes.length c] 152)).alloc
         (Obj.cells #[Value.bool false, Value.int IntKind.i64 0, Value.slice none 0 0] 152)).alloc
  (Obj.cells #[.slice a x.bytes.length c] 27))) := (((Keeps.refl _ w).alloc _).alloc _).alloc _
 have E0 := Hd e0; clear e0; refine (copied_one (A := A) _ _ x.bytes ⟨_, by simp [go_sem], HB.out.ext E0.out⟩ hl).mono ?_; rintro e w1 ⟨v', rfl, h1, h2, h3⟩; have H3 := Hd h3; have H1 := Hd h1; have H2 := Hd h2; have b0 := (((Box.new w 152 [Value.bool x.side, Value.int IntKind.i64 x.key, .slice a x.bytes.length c]).alloc _).alloc _).ext h2; have b1 := ((Box.new (w.alloc (Obj.cells #[Value.bool x.side, Value.int IntKind.i64 x.key, .slice a x.bytes.length c] 152)) 152 [Value.bool false, Value.int IntKind.i64 0, Value.slice none 0 0]).alloc _).ext h2; rw [World.size_alloc] at b1; obtain ⟨c0, f0⟩ := b0.reads; obtain ⟨c1, f1⟩ := b1.reads; obtain ⟨a', c', rfl⟩ := h1.len; clear h1 h2 h3 b0 b1; go_wp2
 refine bodyPost_ret (v := .agg #[.bool x.side, .int .i64 x.key, .slice a' x.bytes.length c']) (by simp [results, Tryz.results163, go_sem, c1]) rfl ⟨_, _, rfl, rfl, ?_, ?_, ?_⟩
 · have hz := E0.out.size
   refine Bytes.mono (w := _) (Bytes.keeps (S := fun k => k = w.heap.size ∨ k = w.heap.size + 1) H1.out ?_ ?_) ?_
   · repeat (first | exact Keeps.refl _ _ | refine Keeps.setCell ?_ _ _ (.inl (by simp; done)))
   · intro k hk; simp at hk; omega
   · intro k hk; simp at hk ⊢; omega
 · repeat (first | exact E0.out.ext H2.out | refine Keeps.setNew ?_ _ _ (by simp; done))
 · rintro b o n cc hv i
   have := H3.out b o n cc hv i; simpa using this
theorem told_any {A : Nat → Prop} (w : World) (x : It) (v : Value) (hv : ItemV w A v x) (hl : x.bytes.length ≤ 1000000) :
 Calls Tryz.prog 163 #[v] w fun e w' =>
  ∃ v', e = .returned v' ∧ ItemV w' (fun k => w.heap.size ≤ k ∧ k < w'.heap.size) v' x ∧ Ext w w' :=
 (told_w w x v hv hl).mono fun e w' ⟨v', bv', h1, h2, h3, h4, _⟩ => ⟨v', h1, ⟨bv', h2, h3⟩, h4⟩
set_option maxHeartbeats 1000000 in
theorem push_ring {A B : Nat → Prop} (w : World) (b f : Nat) (R : AR) (x : It) (v : Value) (h : RingAt w A b f R) (hA : ¬ A b) (hv : ItemV w B v x) (hx : x.bytes.length ≤ 1000000) (hroom : R.items.length < R.most) :
 Calls Tryz.prog 165 #[.pointer (some ⟨b, 0, none⟩), v] w fun e w' =>
  e = .returned noResult ∧ RingAt w' (fun k => A k ∨ (w.heap.size ≤ k ∧ k < w'.heap.size)) b f { R with items := R.items ++ [x] } ∧ Keeps (OneB b) w w' := by
 obtain ⟨bv, rfl, hb⟩ := hv; obtain ⟨a, c, rfl⟩ := hb.len; have hbl := h.lt; have HR := Hd h; have HB := Hd hb; clear h hb; go_enter Tryz.func165, Tryz.ntmps165
 go_wp2_with fail; have b0 := Box.new w 152 [.bool x.side, .int .i64 x.key, .slice a x.bytes.length c]; have e0 : Ext w (w.alloc (Obj.cells #[.bool x.side, .int .i64 x.key, .slice a x.bytes.length c] 152)) := (Keeps.refl _ w).alloc _; generalize w.alloc (Obj.cells #[.bool x.side, .int .i64 x.key, .slice a x.bytes.length c] 152) = w0 at b0 e0 ⊢
 have hr0 := HR.out.ext e0; have g1 := hr0.c1; have hbl0 := hr0.lt; have hbx0 := b0.lt; obtain ⟨c0, f0⟩ := b0.reads; have HR0 := Hd hr0; have HB0 := Hd (HB.out.ext e0); have HE0 := Hd e0; clear hr0 b0 f0 e0; obtain ⟨q, hq⟩ : ∃ q, (f + R.items.length) % R.most = q := ⟨_, rfl⟩; have hq64 : q < 64 := by have := HR0.out.hf; have := HR0.out.hm; have := Nat.mod_lt (f + R.items.length) (show 0 < R.most by omega); omega
 have HQ := Hd hq; clear hq; have hE0 : Keeps NoB w0 w0.drew := (Keeps.refl _ _).drew; refine rgE [(0, 0), (0, 1), (0, 2), (0, 3), (0, 4), (3, 5), (1, 7), (2, 6)] [7] [6, 8, 9, 10] [8, 9, 10] ?_; simp only [planL, nL]; iterate 2 (refine pM _ rfl rfl ?_; simp only [nP, nE])
 iterate 3 (refine pR rfl (fun W => by go_simp <;> with_reducible rfl) ?_; simp only [nP])
 refine pX rfl (by go_simp <;> with_reducible rfl) ?_; simp only [nP]; refine pL rfl (fun W => by go_simp <;> with_reducible rfl) ?_; simp only [nP]; refine plan_does rfl (fun K hK => ?_); go_wp2_with fail; refine (at_ring (HR0.out.ext hE0) R.items.length (by have := HR0.out.hl; have := HR0.out.hm; omega) _ rfl q HQ.out).mono ?_; rintro e W1 ⟨rfl, hW⟩; have hE1 := hE0.trans hW; clear hW; refine hK _ _ ⟨ClsE.of (by assumption), ?_⟩; clear hK K; try simp only [nP]
 refine plan_nil ?_; simp only [tailL, List.filterMap_cons, List.filterMap_nil, nL]; change wpList _ _ _ (_ :: _ :: _ :: []) _ _; go_wp2_with fail; refine (told_any (A := B) _ x _ ⟨_, rfl, HB0.out.ext hE1⟩ hx).mono ?_; rintro e W2 ⟨v', rfl, hv', hW⟩; have hE2 := hE1.trans hW; obtain ⟨bv', rfl, hb'⟩ := hv'; obtain ⟨a', c', rfl⟩ := hb'.len; have hr2 := HR0.out.ext hE2; obtain ⟨z0, hz0⟩ := hr2.has (4 + q * 3) (by omega); obtain ⟨z1, hz1⟩ := hr2.has (4 + q * 3 + 1) (by omega); obtain ⟨z2, hz2⟩ := hr2.has (4 + q * 3 + 2) (by omega); have hfz := hr2.fz; have k1 := hr2.c1; have HR2 := Hd hr2; have HB2 := Hd hb'; have HE2 := Hd hE2; have hl := hr2.hl; have hm := hr2.hm; have hE1s := hE1.size; have hE0s := hE2; clear hr2 hb' hE2 hE1 hE0 hW c0 g1; go_wp2_with fail; go_end0
 have hE2 := HE2.out; have hb2 := HR2.out.lt; refine ⟨rfl, (HR2.out.pushed HQ.out hroom HB2.out hA (by have := hE2.size; have := hE0s.size; omega)).mono ?_, ?_⟩
 · rintro k (hk | hk)
   · exact .inl hk
   · have := HE0.out.size; have := hE1s; simp; omega
 · have := Ext.keeps (S := OneB b) (HE0.out.ext hE2)
   repeat (first | exact this | refine Keeps.setOne ?_ _ _)
end
def p33 (x : It) (y : It) : Bool := x.side && y.side && (y.key == x.key)
theorem c33_any {A : Nat → Prop} (W : World) (bx : Nat) (x y : It) (v : Value) (h0 : W.cell? ⟨bx, 0, none⟩ = some (.bool x.side)) (h1 : W.cell? ⟨bx, 1, none⟩ = some (.int .i64 x.key)) (hv : ItemV W A v y) :
 Calls Tryz.prog 161 #[v, .pointer (some ⟨bx, 0, none⟩)] W fun e W' => e = .returned (.bool (p33 x y)) ∧ Ext W W' := by
 obtain ⟨bv, rfl, hb⟩ := hv; obtain ⟨a, c, rfl⟩ := hb.len; have hlt := World.block_lt_of_cell? _ _ h0; clear hb; obtain ⟨xs, xk, xb⟩ := x; obtain ⟨ys, yk, yb⟩ := y; unfold p33; dsimp only at *; cases xs <;> cases ys
 all_goals
  go_enter Tryz.func161, Tryz.ntmps161
  go_wp2
  go_ret; exact ⟨by simp, (Keeps.refl _ _).alloc _⟩
def p34 (y : It) : Bool := y.side
theorem c34_any {A : Nat → Prop} (W : World) (y : It) (v : Value) (hv : ItemV W A v y) :
 Calls Tryz.prog 162 #[v] W fun e W' => e = .returned (.bool (p34 y)) ∧ Ext W W' := by
 obtain ⟨bv, rfl, hb⟩ := hv; obtain ⟨a, c, rfl⟩ := hb.len; clear hb; go_enter Tryz.func162, Tryz.ntmps162
 go_wp2
 go_ret; exact ⟨rfl, (Keeps.refl _ _).alloc _⟩
theorem c30_any {A : Nat → Prop} (W : World) (x : It) (v : Value) (hv : ItemV W A v x) :
 Calls Tryz.prog 158 #[v] W fun e W' => e = .returned (.bool (!x.side && x.key != 0)) ∧ Ext W W' := by
 obtain ⟨bv, rfl, hb⟩ := hv; obtain ⟨a, c, rfl⟩ := hb.len; clear hb; obtain ⟨xs, xk, xb⟩ := x; dsimp only at *; cases xs
 all_goals
  go_enter Tryz.func158, Tryz.ntmps158
  go_wp2
  go_ret; exact ⟨by simp, (Keeps.refl _ _).alloc _⟩
theorem c31_any {A : Nat → Prop} (W : World) (x : It) (v : Value) (hv : ItemV W A v x) (hl : x.bytes.length ≤ 1000000) :
 Calls Tryz.prog 159 #[v] W fun e W' => e = .returned (.bool (decide (1024 < x.bytes.length))) ∧ Ext W W' := by
 obtain ⟨bv, rfl, hb⟩ := hv; obtain ⟨a, c, rfl⟩ := hb.len; clear hb; by_cases hd : 1024 < x.bytes.length
 all_goals
  go_enter Tryz.func159, Tryz.ntmps159
  go_wp2
  go_ret; exact ⟨by simp; omega, (Keeps.refl _ _).alloc _⟩
theorem c28_any {A : Nat → Prop} (W : World) (br : Nat) (p : Option Addr) (no : Bool) (x : It) (v : Value) (hr : W.cell? ⟨br, 0, none⟩ = some (.pointer p)) (hv : ItemV W A v x)
 (hno : ∀ W', Ext W W' → Calls Tryz.prog 157 #[.pointer p] W' fun e w' => e = .returned (.bool no) ∧ W' = w') :
 Calls Tryz.prog 156 #[v, .pointer (some ⟨br, 0, none⟩)] W fun e W' => e = .returned (.bool no) ∧ Ext W W' := by
 obtain ⟨bv, rfl, hb⟩ := hv; obtain ⟨a, c, rfl⟩ := hb.len; clear hb; have hlt := World.block_lt_of_cell? _ _ hr; have HN := Hd hno; clear hno; go_enter Tryz.func156, Tryz.ntmps156
 go_wp2_with fail; refine (HN.out _ ((Keeps.refl _ _).alloc _)).mono ?_; rintro e W' ⟨rfl, rfl⟩; go_wp2
 go_ret; exact ⟨rfl, (Keeps.refl _ _).alloc _⟩
def findI (p : It → Bool) (l : List It) : Int := match l.findIdx? p with | some i => (i : Int) | none => -1
theorem findI_some {p : It → Bool} {l : List It} {k : Nat} (hk : k < l.length) (hp : p l[k] = true) (hn : ∀ j (h : j < l.length), j < k → p l[j] = false) : findI p l = k := by
 unfold findI
 have : l.findIdx? p = some k := by
  rw [List.findIdx?_eq_some_iff_getElem]; exact ⟨hk, hp, fun j hj => by rw [hn j (by omega) hj]; exact Bool.false_ne_true⟩
 rw [this]
theorem findI_none {p : It → Bool} {l : List It} (hn : ∀ j (h : j < l.length), p l[j] = false) : findI p l = -1 := by
 unfold findI
 have : l.findIdx? p = none := by
  rw [List.findIdx?_eq_none_iff]; intro x hx; obtain ⟨j, hj, rfl⟩ := List.getElem_of_mem hx; exact hn j hj
 rw [this]
theorem find33 {A : Nat → Prop} {b f : Nat} {R : AR} {w : World} (h : RingAt w A b f R) (bx : Nat) (x : It) (h0 : w.cell? ⟨bx, 0, none⟩ = some (.bool x.side)) (h1 : w.cell? ⟨bx, 1, none⟩ = some (.int .i64 x.key)) :
 Calls Tryz.prog 160 #[.pointer (some ⟨b, 0, none⟩), .func (.func 161) #[] #[.pointer (some ⟨bx, 0, none⟩)]] w fun e w' => e = .returned (.int .i64 (findI (p33 x) R.items)) ∧ Ext w w' := by
 have g1 := h.c1; have hl := h.hl; have hm := h.hm; have hbl := h.lt; have HR := Hd h; clear h; have H0 := Hd h0; have H1 := Hd h1; clear h0 h1; go_enter Tryz.func160, Tryz.ntmps160
 go_wp2_with fail; go_loopw [11] (fun i wr => ∃ k : Nat, k ≤ R.items.length ∧ i = .int .i64 k ∧ Ext w wr ∧ Hid (∀ j (h : j < R.items.length), j < k → (p33 x) R.items[j] = false)) (fun i _ => R.items.length - (intOf i).toNat)
 case atStart => exact ⟨0, Nat.zero_le _, rfl, Keeps.refl _ _, fun j _ h => by omega⟩
 case round =>
  obtain ⟨k, hk, rfl, he, hn⟩ := hrel; by_cases hlt : k < R.items.length
  · obtain ⟨q, hq⟩ : ∃ q, (f + k) % R.most = q := ⟨_, rfl⟩
    have hit := (HR.out.ext he).it k hlt; rw [hq] at hit; have HQ := Hd hq; have HE := Hd he; clear hq he; go_wp2_with fail; refine (at_ring (HR.out.ext HE.out) k (by omega) _ rfl q HQ.out).mono ?_; rintro e W1 ⟨rfl, hW⟩; obtain ⟨i1, i2, bv, i3, i4⟩ := hit.keeps hW (noB b) (fun _ _ => noB _); obtain ⟨a, c, rfl⟩ := i4.len; have HE1 := Hd (HE.out.ext hW); have HI := Hd i4; clear hit hW i4; go_wp2_with fail; have hE1 := HE1.out; refine (c33_any (A := A) _ bx x _ _ (Ext.cell hE1 H0.out) (Ext.cell hE1 H1.out) ⟨_, rfl, HI.out⟩).mono ?_; rintro e W2 ⟨rfl, hW2⟩; have HE2 := Hd (HE1.out.ext hW2); clear hE1 hW2; cases hp : (p33 x) R.items[k] with
    | true =>
      have HF := Hd (findI_some hlt hp fun j h h' => hn.out j h h'); clear hp; go_wp2_with fail; go_ret; exact ⟨by rw [HF.out]; rfl, HE2.out⟩
    | false =>
      have HF : Hid (∀ j (h : j < R.items.length), j < k + 1 → (p33 x) R.items[j] = false) := fun j h h' => by
       by_cases hjk : j = k
       · subst hjk; exact hp
       · exact hn.out j h (by omega)
      clear hp; go_wp2_with fail; go_roundw
      case rel => exact ⟨k + 1, by omega, by go_num, HE2.out, HF⟩
      case measure => simp [intOf]; omega
  · have HF : Hid (findI (p33 x) R.items = -1) := findI_none fun j h => hn.out j h (by omega)
    have HE := Hd he; clear he; go_wp2_with fail; go_ret; exact ⟨by rw [HF.out]; rfl, HE.out⟩
theorem find34 {A : Nat → Prop} {b f : Nat} {R : AR} {w : World} (h : RingAt w A b f R)  :
 Calls Tryz.prog 160 #[.pointer (some ⟨b, 0, none⟩), .func (.func 162) #[] #[]] w fun e w' => e = .returned (.int .i64 (findI p34 R.items)) ∧ Ext w w' := by
 have g1 := h.c1; have hl := h.hl; have hm := h.hm; have hbl := h.lt; have HR := Hd h; clear h; skip
 go_enter Tryz.func160, Tryz.ntmps160
 go_wp2_with fail; go_loopw [11] (fun i wr => ∃ k : Nat, k ≤ R.items.length ∧ i = .int .i64 k ∧ Ext w wr ∧ Hid (∀ j (h : j < R.items.length), j < k → p34 R.items[j] = false)) (fun i _ => R.items.length - (intOf i).toNat)
 case atStart => exact ⟨0, Nat.zero_le _, rfl, Keeps.refl _ _, fun j _ h => by omega⟩
 case round =>
  obtain ⟨k, hk, rfl, he, hn⟩ := hrel; by_cases hlt : k < R.items.length
  · obtain ⟨q, hq⟩ : ∃ q, (f + k) % R.most = q := ⟨_, rfl⟩
    have hit := (HR.out.ext he).it k hlt; rw [hq] at hit; have HQ := Hd hq; have HE := Hd he; clear hq he; go_wp2_with fail; refine (at_ring (HR.out.ext HE.out) k (by omega) _ rfl q HQ.out).mono ?_; rintro e W1 ⟨rfl, hW⟩; obtain ⟨i1, i2, bv, i3, i4⟩ := hit.keeps hW (noB b) (fun _ _ => noB _); obtain ⟨a, c, rfl⟩ := i4.len; have HE1 := Hd (HE.out.ext hW); have HI := Hd i4; clear hit hW i4; go_wp2_with fail; have hE1 := HE1.out; refine (c34_any (A := A) _ _ _ ⟨_, rfl, HI.out⟩).mono ?_; rintro e W2 ⟨rfl, hW2⟩; have HE2 := Hd (HE1.out.ext hW2); clear hE1 hW2; cases hp : p34 R.items[k] with
    | true =>
      have HF := Hd (findI_some hlt hp fun j h h' => hn.out j h h'); clear hp; go_wp2_with fail; go_ret; exact ⟨by rw [HF.out]; rfl, HE2.out⟩
    | false =>
      have HF : Hid (∀ j (h : j < R.items.length), j < k + 1 → p34 R.items[j] = false) := fun j h h' => by
       by_cases hjk : j = k
       · subst hjk; exact hp
       · exact hn.out j h (by omega)
      clear hp; go_wp2_with fail; go_roundw
      case rel => exact ⟨k + 1, by omega, by go_num, HE2.out, HF⟩
      case measure => simp [intOf]; omega
  · have HF : Hid (findI p34 R.items = -1) := findI_none fun j h => hn.out j h (by omega)
    have HE := Hd he; clear he; go_wp2_with fail; go_ret; exact ⟨by rw [HF.out]; rfl, HE.out⟩
end Go.Proofs.YtoadjbgpfihoiaaGreatDoor
