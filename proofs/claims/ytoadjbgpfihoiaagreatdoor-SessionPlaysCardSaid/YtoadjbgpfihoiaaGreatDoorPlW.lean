/- Texts RingE, RingF, RingG, RingH, RX, one behind the other. Conditions: as each says. -/
import Derived.Test.YtoadjbgpfihoiaaGreatDoorPlS
set_option linter.unusedVariables false
set_option linter.unusedSimpArgs false
set_option maxHeartbeats 8000000
set_option maxRecDepth 100000
namespace Go.Proofs.YtoadjbgpfihoiaaGreatDoor
open Go.RowKit
theorem RingAt.taken {w : World} {A : Nat → Prop} {b f q m l : Nat} {x : It} {r : List It} (h : RingAt w A b f ⟨m, l, x :: r⟩) (hA : ¬ A b) (hq : (f + 0) % m = q) :
 RingAt (((((w.setCell ⟨b, 4 + q * 3, none⟩ (.bool false)).setCell ⟨b, 4 + q * 3 + 1, none⟩ (.int .i64 0)).setCell ⟨b, 4 + q * 3 + 2, none⟩ (.slice none 0 0)).setCell ⟨b, 0, none⟩ (.int .i64 (((f + 1) % m : Nat) : Int))).setCell ⟨b, 1, none⟩ (.int .i64 (r.length : Int)))
  A b ((f + 1) % m) ⟨m, l, r⟩ := by
 have hm : m ≤ 64 := h.hm; have hf : f < m := h.hf; have hlm : r.length + 1 ≤ m := h.hl; have hq64 : q < 64 := by have := Nat.mod_lt (f + 0) (show 0 < m by omega); omega
 have h1 := (RingAt.store3 (B := A) (x := ⟨false, 0, []⟩) (bv := .slice none 0 0) (R' := ⟨m, l, ⟨false, 0, []⟩ :: r⟩) h hA hq64 (.inl ⟨none, rfl, rfl⟩) hA rfl rfl rfl (by
  intro i hi; by_cases hiq : (f + i) % m = q
  · obtain rfl : i = 0 := mod_inj (f := f) (m := m) (by simp at hi; omega) (by omega) (hiq.trans hq.symm)
    rw [if_pos hq]; rfl
  · rw [if_neg hiq]
    cases i with
    | zero => exact (hiq hq).elim
    | succ i => rfl)).mono (A' := A) (fun _ h => h.elim id id)
 dsimp only at h1; generalize hw3 : ((w.setCell ⟨b, 4 + q * 3, none⟩ (.bool false)).setCell ⟨b, 4 + q * 3 + 1, none⟩ (.int .i64 0)).setCell ⟨b, 4 + q * 3 + 2, none⟩ (.slice none 0 0) = w3 at h1 ⊢
 have hk : Keeps (OneB b) w3 ((w3.setCell ⟨b, 0, none⟩ (.int .i64 (((f + 1) % m : Nat) : Int))).setCell ⟨b, 1, none⟩ (.int .i64 (r.length : Int))) := ((Keeps.refl (OneB b) w3).setOne _ _).setOne _ _; have hAn : ∀ k, A k → ¬ OneB b k := fun k h1 h2 => hA (by unfold OneB at h2; rwa [← h2])
 have sm : ∀ o, o < 196 → (w3.cell? ⟨b, o, none⟩).isSome = true := fun o ho => by obtain ⟨v, hv⟩ := h1.has o ho; rw [hv]; rfl
 refine ⟨fun o => by simp [h1.fz], fun o ho => has_set _ (has_set _ (h1.has o ho)), ?_, ?_, ?_, ?_, Nat.mod_lt _ (by omega), hm, by show r.length ≤ m; omega, ?_⟩
 · rw [cell_keep _ _ _ _ _ _ (by omega), cell_put _ _ _ _ (sm 0 (by omega))]
 · rw [cell_put _ _ _ _ (by rw [cell_keep _ _ _ _ _ _ (by omega)]; exact sm 1 (by omega))]
 · rw [cell_keep _ _ _ _ _ _ (by omega), cell_keep _ _ _ _ _ _ (by omega)]; exact h1.c2
 · rw [cell_keep _ _ _ _ _ _ (by omega), cell_keep _ _ _ _ _ _ (by omega)]; exact h1.c3
 · intro i hi
   obtain ⟨i1, i2, v, i3, i4⟩ := h1.it (i + 1) (by simpa using hi); have he : ((f + 1) % m + i) % m = (f + (i + 1)) % m := by rw [Nat.mod_add_mod]; congr 1; omega
   show ItemAt _ _ b (4 + (((f + 1) % m + i) % m) * 3) r[i]
   rw [he]; refine ⟨?_, ?_, v, ?_, i4.keeps hk hAn⟩; all_goals rw [cell_keep _ _ _ _ _ _ (by omega), cell_keep _ _ _ _ _ _ (by omega)]
   all_goals assumption
theorem take_empty {A : Nat → Prop} (w : World) (b f m l : Nat) (h : RingAt w A b f ⟨m, l, []⟩) :
 Calls Tryz.prog 108 #[.pointer (some ⟨b, 0, none⟩)] w fun e w' => e = .returned (.tuple #[.agg #[.bool false, .int .i64 0, .slice none 0 0], .bool false]) ∧ Ext w w' := by
 have g1 := h.c1; have hbl := h.lt; simp only [List.length_nil] at g1; have HR := Hd h; clear h; go_enter Tryz.func108, Tryz.ntmps108
 go_wp2_with fail; refine (none_ring (HR.out.ext ((Keeps.refl _ _).alloc _))).mono ?_; rintro e w' ⟨rfl, rfl⟩; go_wp2
 exact bodyPost_ret (v := .tuple #[.agg #[.bool false, .int .i64 0, .slice none 0 0], .bool false]) (by simp [results, Tryz.results108, go_sem]) rfl ⟨rfl, by repeat (first | exact Keeps.refl _ _ | refine Keeps.alloc ?_ _ | refine Keeps.setNew ?_ _ _ (by simp; done))⟩
set_option maxHeartbeats 2000000 in
theorem take_ring {A : Nat → Prop} (w : World) (b f m l : Nat) (x : It) (r : List It) (h : RingAt w A b f ⟨m, l, x :: r⟩) (hA : ¬ A b) (hAl : ∀ k, A k → k < w.heap.size) :
 Calls Tryz.prog 108 #[.pointer (some ⟨b, 0, none⟩)] w fun e w' =>
  ∃ v, e = .returned (.tuple #[v, .bool true]) ∧ ItemV w' A v x ∧ RingAt w' A b ((f + 1) % m) ⟨m, l, r⟩ ∧ Keeps (OneB b) w w' := by
 have g1 := h.c1; have hbl := h.lt; have hm : m ≤ 64 := h.hm; have hf : f < m := h.hf; have hlm : r.length + 1 ≤ m := h.hl; have g1' : w.cell? ⟨b, 1, none⟩ = some (.int .i64 ((r.length : Int) + 1)) := by rw [g1]; simp
 have hz : (((r.length : Int) + 1) == 0) = false := by rw [beq_eq_false_iff_ne]; omega
 have HR := Hd h; clear h g1; obtain ⟨q, hq⟩ : ∃ q, (f + 0) % m = q := ⟨_, rfl⟩; have hq64 : q < 64 := by have := Nat.mod_lt (f + 0) (show 0 < m by omega); omega
 have HQ := Hd hq; clear hq; go_enter Tryz.func108, Tryz.ntmps108
 go_wp2_with fail; refine (none_ring (HR.out.ext ((Keeps.refl _ _).alloc _))).mono ?_; rintro e w' ⟨rfl, rfl⟩; go_wp2_with fail; have ba0 := (Box.new w 152 [.bool false, .int .i64 0, .slice none 0 0]); have ea : Ext w (w.alloc (Obj.cells #[.bool false, .int .i64 0, .slice none 0 0] 152)) := ((Keeps.refl NoB w).alloc _); have sa : (w.alloc (Obj.cells #[.bool false, .int .i64 0, .slice none 0 0] 152)).heap.size = w.heap.size + 1 := by simp
 generalize (w.alloc (Obj.cells #[.bool false, .int .i64 0, .slice none 0 0] 152)) = w0 at ba0 ea sa ⊢
 have Sa := Hd sa; clear sa; have HR0 := Hd (HR.out.ext ea); refine (at_ring HR0.out 0 (by omega) _ (by rfl) q HQ.out).mono ?_; rintro e W1 ⟨rfl, hW1⟩; have hr1 := HR0.out.ext hW1; obtain ⟨i1, i2, bv, i3, i4⟩ := hr1.it 0 (by simp); simp only [HQ.out, List.getElem_cons_zero] at i1 i2 i3; obtain ⟨a, c, rfl⟩ := i4.len; have HI := Hd i4; have HR1 := Hd hr1; have HE1 := Hd (ea.ext hW1); have B0 := Hd (ba0.ext hW1); have hlt1 := (ba0.ext hW1).lt; clear hr1 i4 hW1 ea ba0; dsimp only [List.getElem_cons_zero] at i1 i2 i3; go_wp2_with fail; have bc0 := (Box.new W1 152 [.bool x.side, .int .i64 x.key, .slice a x.bytes.length c]); have ec : Ext W1 (W1.alloc (Obj.cells #[.bool x.side, .int .i64 x.key, .slice a x.bytes.length c] 152)) := ((Keeps.refl NoB W1).alloc _); have sc : (W1.alloc (Obj.cells #[.bool x.side, .int .i64 x.key, .slice a x.bytes.length c] 152)).heap.size = W1.heap.size + 1 := by simp
 generalize (W1.alloc (Obj.cells #[.bool x.side, .int .i64 x.key, .slice a x.bytes.length c] 152)) = W2 at bc0 ec sc ⊢
 have Sc := Hd sc; clear sc; have HR2 := Hd (HR1.out.ext ec); refine (at_ring HR2.out 0 (by omega) _ (by rfl) q HQ.out).mono ?_; rintro e W3 ⟨rfl, hW3⟩; have hr3 := HR2.out.ext hW3; obtain ⟨z0, hz0⟩ := hr3.has (4 + q * 3) (by omega); obtain ⟨z1, hz1⟩ := hr3.has (4 + q * 3 + 1) (by omega); obtain ⟨z2, hz2⟩ := hr3.has (4 + q * 3 + 2) (by omega); have hfz := hr3.fz; have HR3 := Hd hr3; have B1 := Hd (bc0.ext hW3); have B0' := Hd ((B0.out.ext ec).ext hW3); have HE3 := Hd ((HE1.out.ext ec).ext hW3); have HI3 := Hd ((HI.out.ext ec).ext hW3); clear hr3 hW3 ec bc0 i1 i2 i3; go_wp2_with fail
 -- the world behind the zero item
 have hr4 := (RingAt.store3 (B := A) (x := ⟨false, 0, []⟩) (bv := .slice none 0 0) (R' := ⟨m, l, ⟨false, 0, []⟩ :: r⟩) HR3.out hA hq64 (.inl ⟨none, rfl, rfl⟩) hA rfl rfl rfl (by
  intro i hi; by_cases hiq : (f + i) % m = q
  · obtain rfl : i = 0 := mod_inj (f := f) (m := m) (by simp at hi; omega) (by omega) (hiq.trans HQ.out.symm)
    rw [if_pos HQ.out]; rfl
  · rw [if_neg hiq]
    cases i with
    | zero => exact (hiq HQ.out).elim
    | succ i => rfl)).mono (A' := A) (fun _ h => h.elim id id)
 dsimp only at hr4; obtain ⟨W4, hW4⟩ : ∃ W4, ((W3.setCell ⟨b, 4 + q * 3, none⟩ (.bool false)).setCell ⟨b, 4 + q * 3 + 1, none⟩ (.int .i64 0)).setCell ⟨b, 4 + q * 3 + 2, none⟩ (.slice none 0 0) = W4 := ⟨_, rfl⟩; rw [hW4] at hr4 ⊢; have h0 := hr4.c0; have h1 := hr4.c1; have h1' : W4.cell? ⟨b, 1, none⟩ = some (.int .i64 ((r.length : Int) + 1)) := by rw [h1]; simp
 have h3 := hr4.c3; have hb4 := hr4.lt; have hfz4 := hr4.fz; have hs : IntKind.i64.wrap ((f : Int) + 1) = ((f + 1 : Nat) : Int) := by rw [IntWalk.i64_in _ (by omega)]; simp
 have hs2 : IntKind.i64.wrap ((r.length : Int) + 1 - 1) = (r.length : Int) := by rw [IntWalk.i64_in _ (by omega)]; omega
 have hk34 : Keeps (OneB b) W3 W4 := by rw [← hW4]; exact (((Keeps.refl (OneB b) W3).setOne _ _).setOne _ _).setOne _ _
 have hszE := HE1.out.size; have hszC := Sc.out; have b1 := B1.out.keeps hk34 (by unfold OneB; omega); have b0 := B0'.out.keeps hk34 (by unfold OneB; omega); obtain ⟨c1, y1⟩ := b1.reads; obtain ⟨c0, y0⟩ := b0.reads; have l1 := b1.lt; have l0 := b0.lt; have n1 : ¬ (b = W1.heap.size) := by omega
 have n0 : ¬ (b = w.heap.size) := by omega
 have n1' : ¬ (W1.heap.size = b) := by omega
 have n0' : ¬ (w.heap.size = b) := by omega
 have HK34 := Hd hk34; clear h1 hz0 hz1 hz2 hfz hk34 b1 b0 hszC; dsimp only at h0 h3; have HR4 := Hd hr4; have HW4 := Hd hW4; clear hr4 hW4; have hE0 : Keeps NoB W4 W4.drew := (Keeps.refl _ _).drew; refine rgE [(0, 0), (0, 1), (0, 2), (0, 3), (0, 4), (0, 5), (3, 6), (0, 7), (0, 8), (0, 9), (0, 10), (3, 11), (0, 13), (0, 14), (0, 15), (0, 16), (1, 17), (0, 18), (2, 12), (0, 19), (0, 20), (0, 21)] [17] [12, 22, 23, 24, 25, 26] [22, 23, 24, 25, 26] ?_; simp only [planL, nL]; iterate 18 (first | (refine pM _ rfl rfl ?_; simp only [nP, nE]) | (refine pR (by rfl) (fun W => by go_simp <;> with_reducible rfl) ?_; simp only [nP]) | (refine pX (by rfl) (by go_simp <;> with_reducible rfl) ?_; simp only [nP]) | (refine pL (by rfl) (fun W => by go_simp <;> with_reducible rfl) ?_; simp only [nP]))
 refine plan_does rfl (fun K hK => ?_); go_wp2_with fail; refine (round_any (f + 1) m _ (by omega) (by omega) (by omega)).mono ?_; rintro e W5 ⟨rfl, rfl⟩; refine hK _ _ ⟨ClsE.of (by assumption), ?_⟩; clear hK K; try simp only [nP]
 iterate 3 (refine pR rfl (fun W => by go_simp <;> with_reducible rfl) ?_; simp only [nP])
 refine plan_nil ?_; simp only [tailL, List.filterMap_cons, List.filterMap_nil, nL]; change wpList _ _ _ (_ :: _ :: _ :: _ :: _ :: []) _ _; go_wp2_with fail; have ht := HR3.out.taken hA HQ.out; rw [HW4.out] at ht; simp only [Int.natCast_emod, Int.natCast_add, Int.natCast_one] at ht; have hAb : ∀ k, A k → ¬ OneB b k := fun k h1 h2 => hA (by unfold OneB at h2; rwa [← h2])
 have hAw : ∀ k, A k → ¬ OneB w.heap.size k := fun k h1 h2 => by have := hAl k h1; unfold OneB at h2; omega
 have hk2 : Keeps (OneB b) W3 (((W4.setCell ⟨b, 0, none⟩ (.int .i64 (((f : Int) + 1) % (m : Int)))).setCell ⟨b, 1, none⟩ (.int .i64 (r.length : Int)))) := (HK34.out.setOne _ _).setOne _ _; generalize hW6 : (W4.setCell ⟨b, 0, none⟩ (.int .i64 (((f : Int) + 1) % (m : Int)))).setCell ⟨b, 1, none⟩ (.int .i64 (r.length : Int)) = W6 at ht hk2 ⊢
 have hk3 : Keeps (OneB w.heap.size) W6 ((((W6.setCell ⟨w.heap.size, 0, none⟩ (.bool x.side)).setCell ⟨w.heap.size, 1, none⟩ (.int .i64 x.key)).setCell ⟨w.heap.size, 2, none⟩ (.slice a x.bytes.length c)).drew) :=
  ((((Keeps.refl (OneB w.heap.size) W6).setOne _ _).setOne _ _).setOne _ _).drew
 have hkA : Keeps (OneB b) w ((((W6.setCell ⟨w.heap.size, 0, none⟩ (.bool x.side)).setCell ⟨w.heap.size, 1, none⟩ (.int .i64 x.key)).setCell ⟨w.heap.size, 2, none⟩ (.slice a x.bytes.length c)).drew) :=
  ((Ext.keeps HE3.out).trans hk2).then hk3 (fun i hi h => by unfold OneB at h; omega)
 generalize hW7 : ((((W6.setCell ⟨w.heap.size, 0, none⟩ (.bool x.side)).setCell ⟨w.heap.size, 1, none⟩ (.int .i64 x.key)).setCell ⟨w.heap.size, 2, none⟩ (.slice a x.bytes.length c)).drew) = W7 at hk3 hkA ⊢
 have c7 : ∀ o, W7.cell? ⟨w.heap.size, o, none⟩ = [Value.bool x.side, .int .i64 x.key, .slice a x.bytes.length c][o]? := by
  have q0 : Box W6 w.heap.size 152 [.bool false, .int .i64 0, .slice none 0 0] := by
   have := B0'.out.keeps hk2 (by unfold OneB; omega); exact this
  have q1 := (((q0.set 0 (.bool x.side)).set 1 (.int .i64 x.key)).set 2 (.slice a x.bytes.length c)).drew; rw [hW7] at q1; exact q1.reads.1
 refine bodyPost_ret (v := .tuple #[.agg #[.bool x.side, .int .i64 x.key, .slice a x.bytes.length c], .bool true]) (by simp [results, Tryz.results108, go_sem, c7]) rfl ⟨_, rfl, ⟨_, rfl, ?_⟩, ?_, hkA⟩
 · exact (HI3.out.keeps hk2 hAb).keeps hk3 hAw
 · exact ht.keeps hk3 (by unfold OneB; omega) hAw
theorem infoItem : (Tryz.prog.info? 152).map (fun i => (i.zero, i.size, i.bytes)) = some (some (.agg #[.bool false, .int .i64 0, .slice none 0 0]), 3, 40) := by kernel_rfl
def ItemEn (w : World) (A : Nat → Prop) (c : List Value) (x : It) : Prop := ∃ bv, c = [.bool x.side, .int .i64 x.key, bv] ∧ Bytes w A bv x.bytes
theorem ItemEn.at {w : World} {A A' : Nat → Prop} (hA : ∀ k, A k → A' k) (b o : Nat) (c : List Value) (x : It) (h : ItemEn w A c x) (hl : c.length = 3) (hc : ∀ i, i < 3 → w.cell? ⟨b, o + i, none⟩ = c[i]?) : ItemAt w A' b o x := by
 obtain ⟨bv, rfl, hb⟩ := h; exact ⟨by simpa using hc 0 (by omega), by simpa using hc 1 (by omega), bv, by simpa using hc 2 (by omega), hb.mono hA⟩
def SeqAt (w : World) (A : Nat → Prop) (bx : Nat) (l : List It) : Prop := ∃ sv, w.cell? ⟨bx, 0, none⟩ = some sv ∧ SlV A (ItemAt w A) 3 sv l
theorem SeqAt.keeps {w w' : World} {A S : Nat → Prop} {bx : Nat} {l : List It} (h : SeqAt w A bx l) (hk : Keeps S w w') (hb : ¬ S bx) (hA : ∀ k, A k → ¬ S k) : SeqAt w' A bx l :=
 let ⟨sv, h1, h2⟩ := h
 ⟨sv, hk.cell hb h1, h2.mono (fun _ h => h) fun b o x ha hi => hi.keeps hk (hA b ha) hA⟩
theorem SeqAt.ext {w w' : World} {A : Nat → Prop} {bx : Nat} {l : List It} (h : SeqAt w A bx l) (hk : Ext w w') : SeqAt w' A bx l := h.keeps hk (noB _) fun _ _ => noB _
set_option maxHeartbeats 2000000 in
set_option maxRecDepth 100000 in
theorem all_ring {A : Nat → Prop} (w : World) (b f : Nat) (R : AR) (h : RingAt w A b f R) (hx : ∀ x ∈ R.items, x.bytes.length ≤ 1000000) :
 Calls Tryz.prog 167 #[.pointer (some ⟨b, 0, none⟩)] w fun e w' =>
  e = .returned (.func (.func 217) #[] #[.pointer (some ⟨w.heap.size, 0, none⟩)]) ∧ SeqAt w' (fun k => w.heap.size ≤ k ∧ k < w'.heap.size) w.heap.size R.items ∧ Ext w w' := by
 obtain ⟨i0, hi, hz0, hz1, hz2⟩ := info_parts infoItem; have hl := h.hl; have hm := h.hm; have hf := h.hf; have hbl := h.lt; have g1 := h.c1; have HR := Hd h; have HX := Hd hx; clear h hx; go_enter Tryz.func167, Tryz.ntmps167
 go_wp2_with fail; have ba0 := (Box.new w 69 [.slice none 0 0]); have ea : Ext w (w.alloc (Obj.cells #[.slice none 0 0] 69)) := ((Keeps.refl NoB w).alloc _); have sa : (w.alloc (Obj.cells #[.slice none 0 0] 69)).heap.size = w.heap.size + 1 := by simp
 generalize (w.alloc (Obj.cells #[.slice none 0 0] 69)) = w0 at ba0 ea sa ⊢
 have Sa := Hd sa; clear sa; have HR0 := Hd (HR.out.ext ea); have g1 := HR0.out.c1; have hbl0 := HR0.out.lt; have HEa := Hd ea; have HB0 := Hd ba0; clear ea ba0; refine (none_ring HR0.out).mono ?_; rintro e w' ⟨rfl, rfl⟩; go_wp2_with fail
 go_loopw [13] (fun t wr => ∃ k : Nat, k ≤ R.items.length ∧ t = .int .i64 k ∧ Hid (∃ sv cs, Ext w wr ∧ w0.heap.size ≤ wr.heap.size ∧ Box wr w.heap.size 69 [sv] ∧ wr.ownsRow (w.heap.size + 1) 152 3 sv k cs ∧
  RowOf 3 (ItemEn wr (fun b => w.heap.size + 1 ≤ b ∧ b < wr.heap.size ∧ some b ≠ sv.ownBlock)) cs (R.items.take k))) (fun t _ => R.items.length - (intOf t).toNat)
 case atStart => exact ⟨0, by omega, rfl, .slice none 0 0, [], HEa.out, Nat.le_refl _, HB0.out, World.ownsRow_nil _ _ _ _, by simpa using RowOf.nil⟩
 case round =>
  obtain ⟨k, hk, rfl, hh⟩ := hrel; obtain ⟨sv, cs, he, hsz, hb, ho, hrow⟩ := hh.out; by_cases hlt : k < R.items.length
  · obtain ⟨q, hq⟩ : ∃ q, (f + k) % R.most = q := ⟨_, rfl⟩
    have hq64 : q < 64 := by have := Nat.mod_lt (f + k) (show 0 < R.most by omega); omega
    have hr := HR.out.ext he; obtain ⟨i1, i2, bv, i3, i4⟩ := hr.it k hlt; rw [hq] at i1 i2 i3; obtain ⟨a, c, rfl⟩ := i4.len; have hxk : R.items[k].bytes.length ≤ 1000000 := HX.out _ (List.getElem_mem _); generalize hx : R.items[k] = x at *
    obtain ⟨c0, y0⟩ := hb.reads; have hb0 := hb.lt; have hblr := hr.lt; have HRr := Hd hr; have HQ := Hd hq; have HI := Hd i4; have HE := Hd he; have HB := Hd hb; have HO := Hd ho; have HROW := Hd hrow; have HXK := Hd hx; clear hr hq i4 he hb ho hrow hx hh; go_wp2_with fail; have hE0 : Keeps NoB wr wr.drew := (Keeps.refl _ _).drew; refine rgE [(1, 0), (0, 1), (0, 2), (2, 3), (0, 4), (1, 5), (2, 6), (2, 7)] [0, 5] [3, 6, 7, 8, 9] [8, 9] ?_; simp only [planL, nL]; refine pL rfl (fun W => by go_simp <;> with_reducible rfl) ?_; simp only [nP]; iterate 2 (refine pM _ rfl rfl ?_; simp only [nP, nE])
    refine plan_does rfl (fun K hK => ?_); go_wp2_with fail; refine (at_ring (HRr.out.ext hE0) k (by omega) _ rfl q HQ.out).mono ?_; rintro e W1 ⟨rfl, hW⟩; have hE1 := hE0.trans hW; clear hW; refine hK _ _ ⟨ClsE.of (by assumption), ?_⟩; clear hK K; try simp only [nP]
    refine pR rfl (fun W => by go_simp <;> with_reducible rfl) ?_; simp only [nP]; refine pL rfl (fun W => by go_simp <;> with_reducible rfl) ?_; simp only [nP]; refine plan_does rfl (fun K hK => ?_); go_wp2_with fail; refine (told_any (A := A) _ x _ ⟨_, rfl, HI.out.ext hE1⟩ hxk).mono ?_; rintro e W2 ⟨v', rfl, hv', hW⟩; have hE2 := hE1.trans hW; have hs1 := hE1.size; obtain ⟨bv', rfl, hb'⟩ := hv'; obtain ⟨a', c', rfl⟩ := hb'.len; have HB' := Hd hb'; clear hb' hW; refine hK _ _ ⟨ClsE.of (by assumption), ?_⟩; clear hK K; try simp only [nP]
    refine plan_does rfl (fun K hK => ?_); go_wp2_with fail; refine ⟨ClsE.of (by repeat (first | assumption | exact Keeps.refl _ _ | refine Keeps.alloc ?_ _ | refine Keeps.setOne ?_ _ _ | refine Keeps.setCell ?_ _ _ (.inl (by first | rfl | exact .inl rfl | exact .inr rfl | omega)) | refine Keeps.drew ?_)), ?_⟩; try simp only [nP]
    refine plan_nil ?_; simp only [tailL, List.filterMap_cons, List.filterMap_nil, nL]; change wpList _ _ _ (_ :: _ :: []) _ _
    -- the item is appended, and the box holds the slice
    have bs := Box.new W2 152 [.bool x.side, .int .i64 x.key, .slice a' x.bytes.length c']; have ba := (HB.out.ext hE2).alloc (Obj.cells #[.bool x.side, .int .i64 x.key, .slice a' x.bytes.length c'] 152); have hE3 : Ext wr (W2.alloc (Obj.cells #[.bool x.side, .int .i64 x.key, .slice a' x.bytes.length c'] 152)) := hE2.alloc _; have hE23 : Ext W2 (W2.alloc (Obj.cells #[.bool x.side, .int .i64 x.key, .slice a' x.bytes.length c'] 152)) := (Keeps.refl _ _).alloc _
    have ho3 := HO.out.kept (w' := W2.alloc (Obj.cells #[.bool x.side, .int .i64 x.key, .slice a' x.bytes.length c'] 152)) (row := none) ⟨hE3.os, hE3.tape, hE3.output, hE3.size, fun k hk _ => hE3.block k hk (noB _)⟩ (by
     cases hv : sv.ownBlock with
     | none => exact .inl rfl
     | some g => exact .inr (by simp))
    generalize W2.alloc (Obj.cells #[.bool x.side, .int .i64 x.key, .slice a' x.bytes.length c'] 152) = W3 at *
    have hs3 := hE3.size; have hk64 : k + 1 ≤ 65 := by omega
    obtain ⟨v2, W4, hrun, ho4, hg4, hown4⟩ := run_append_src (P := Tryz.prog) W3 (w.heap.size + 1) 69 69 152 i0 _ 3 40 Tryz.underlying69 hi hz0 hz1 hz2 rfl (by decide) sv k cs ho3 _ 1 _ (Box.src bs 1 1) (by simp) (by intro u hu; simp at hu; rcases hu with rfl | rfl | rfl <;> rfl) (by simp [maxLen]; omega) (by omega) (by have := HE.out.size; omega)
    have hrow4 : RowOf 3 (ItemEn W4 (fun b => w.heap.size + 1 ≤ b ∧ b < W4.heap.size ∧ some b ≠ v2.ownBlock)) (cs ++ [.bool x.side, .int .i64 x.key, .slice a' x.bytes.length c']) (R.items.take (k + 1)) := by
     rw [List.take_succ_eq_append_getElem hlt, HXK.out]; have hks : Keeps (fun b => some b = sv.ownBlock) W3 W4 := (Keeps.of_grownBy hg4).mono fun _ _ h => h.symm
     have hs4 := hg4.size; refine RowOf.snoc (HROW.out.mono ?_) rfl ⟨_, rfl, ?_⟩
     · rintro c y ⟨bv, rfl, hbv⟩
       refine ⟨bv, rfl, ((hbv.ext hE3).keeps hks fun b hb h => hb.2.2 h).mono fun b hb => ⟨hb.1, by omega, fun h => ?_⟩⟩; rcases hown4 with h4 | h4
       · exact hb.2.2 (h.trans h4)
       · rw [h4] at h
         injection h with h
         omega
     · have hlt2 : ∀ g, sv.ownBlock = some g → g < wr.heap.size := fun g hg => (HO.out.lt g hg).2
       have hb2 := HB'.out.ext hE23; have hs2 := hE23.size; have hszr := HE.out.size; refine (hb2.keeps hks fun b hb h => ?_).mono fun b hb => ⟨by omega, by omega, fun h => ?_⟩
       · have := hlt2 b h.symm; omega
       · rcases hown4 with h4 | h4
         · have := hlt2 b (h4.symm.trans h.symm); omega
         · rw [h4] at h
           injection h with h
           omega
    have hE4 : Ext w W4 := (HE.out.ext hE3).grown hg4 fun g hg => .inr (by have := (ho3.lt g hg).1; omega)
    have hba4 : Box W4 w.heap.size 69 [sv] := by
     have : W4.heap[w.heap.size]? = W3.heap[w.heap.size]? := hg4.block _ ba.lt (fun h => by have := (ho3.lt _ h.symm).1; omega); exact this.trans ba
    obtain ⟨d0, z0⟩ := hba4.reads; have hd0 := hba4.lt
    have HF : Hid (∃ sv cs, Ext w (W4.setCell ⟨w.heap.size, 0, none⟩ v2) ∧ w0.heap.size ≤ (W4.setCell ⟨w.heap.size, 0, none⟩ v2).heap.size ∧ Box (W4.setCell ⟨w.heap.size, 0, none⟩ v2) w.heap.size 69 [sv] ∧ (W4.setCell ⟨w.heap.size, 0, none⟩ v2).ownsRow (w.heap.size + 1) 152 3 sv (k + 1) cs ∧
     RowOf 3 (ItemEn (W4.setCell ⟨w.heap.size, 0, none⟩ v2) (fun b => w.heap.size + 1 ≤ b ∧ b < (W4.setCell ⟨w.heap.size, 0, none⟩ v2).heap.size ∧ some b ≠ sv.ownBlock)) cs (R.items.take (k + 1))) := by
     refine ⟨v2, _, hE4.setNew _ _ (Nat.le_refl _), by have := hg4.size; simp; omega, hba4.set 0 v2, ownsRow_setCell_below ho4 (by simp) _, hrow4.mono ?_⟩; rintro c y ⟨bv, rfl, hbv⟩; refine ⟨bv, rfl, (hbv.keeps ((Keeps.refl (OneB w.heap.size) W4).setOne 0 v2) fun b hb h => ?_).mono fun b hb => ⟨hb.1, by simpa using hb.2.1, hb.2.2⟩⟩; unfold OneB at h; omega
    have hv2s : ∃ n c a, v2 = .slice a n c := by
     rcases ho4.2 with ⟨h, _⟩ | ⟨g, cap, cur, h, _⟩
     · exact ⟨_, _, _, h⟩
     · exact ⟨_, _, _, h⟩
    obtain ⟨n2, c2, a2, rfl⟩ := hv2s; clear hrow4 ho4 hg4 hown4 hE4 hba4 hE3 hE23 ho3 bs ba hs3 hE2 hE1 hE0 c0 y0; refine wpList_append_ran rfl _ _ hrun rfl rfl rfl ?_; go_wp2_with fail; go_roundw
    case rel => exact ⟨k + 1, by omega, by go_num, HF⟩
    case measure => simp [intOf]; omega
  · obtain rfl : k = R.items.length := by omega
    have HF : Hid (SeqAt wr (fun k => w.heap.size ≤ k ∧ k < wr.heap.size) w.heap.size R.items) := by
     rw [List.take_of_length_le (Nat.le_refl _)] at hrow; obtain ⟨d0, _⟩ := hb.reads; refine ⟨sv, by rw [d0]; rfl, (SlV.of_owns (At := ItemAt wr (fun k => w.heap.size ≤ k ∧ k < wr.heap.size)) ho rfl hrow ?_).mono (fun b hb => ⟨by omega, hb.2⟩) fun _ _ _ _ h => h⟩; exact fun b o c x h1 h2 h3 => ItemEn.at (fun k hk => ⟨by omega, hk.2.1⟩) b o c x h1 h2 h3
    have HE := Hd he; clear he hb ho hrow hh; go_wp2_with fail; go_ret; exact ⟨rfl, HF.out, HE.out⟩
section
attribute [local go_sem] Oper.semAt_some
def Fresh (n0 : Nat) (x : It) (v : Array Value) (W0 W : World) : Prop := ∃ bv, v = #[.agg #[.bool x.side, .int .i64 x.key, bv]] ∧ Bytes W (fun k => W0.heap.size ≤ k ∧ k < W.heap.size) bv x.bytes ∧ Wr W bv ∧ n0 + 2 ≤ W0.heap.size
set_option maxHeartbeats 1000000 in
theorem iter_ring {A S : Nat → Prop} (w0 : World) (bx : Nat) (l : List It) (h : SeqAt w0 A bx l) (hS : ¬ S bx) (hA : ∀ k, A k → ¬ S k) (hx : ∀ x ∈ l, x.bytes.length ≤ 1000000) (hl : l.length ≤ 1000) :
 IterOK Fence.wide 8 Tryz.prog 217 #[.pointer (some ⟨bx, 0, none⟩)] l (Fresh w0.heap.size) S w0 := by
 intro ll J Jx W hll hJk hJs hJ hJx hround h0; have hk0 := hJk 0 W h0; obtain ⟨sv, hc0, hsl⟩ := h; have hc := hk0.cell hS hc0
 obtain ⟨a, c, rfl⟩ : ∃ a c, sv = .slice a l.length c := by
  rcases hsl with ⟨a, rfl, rfl⟩ | ⟨b, o, c, rfl, _⟩
  · exact ⟨_, _, rfl⟩
  · exact ⟨_, _, rfl⟩
 have hbx := World.block_lt_of_cell? _ _ hc; have HSL := Hd hsl; have HX := Hd hx; have HR := Hd hround; have HJk := Hd hJk; have HJs := Hd hJs; have HJ := Hd hJ; have HK0 := Hd hk0; clear hx hround hJk hJs hJ hsl hk0 hc0; refine callsIn_of_wp Tryz.func217 rfl trivial ?_ rfl; simp only [Tryz.ntmps217, List.size_toArray, List.length_cons, List.length_nil, Nat.reduceAdd, Nat.reduceSub, Array.replicate_succ, Array.replicate_zero, List.push_toArray, List.append_toArray, List.nil_append, List.cons_append]; refine wpIn_scope ?_; gi_wp2
 refine wpIn_label ?_; gi_wp2_with fail
 gi_loopw [7] (fun t wr => ∃ k : Nat, k ≤ l.length ∧ t = .int .i64 k ∧ Hid (J k wr)) (fun t _ => l.length - (intOf t).toNat)
 case atStart => exact ⟨0, by omega, rfl, h0⟩
 case round =>
  obtain ⟨k, hk, rfl, hj⟩ := hrel; by_cases hlt : k < l.length
  · have hkr := HJk.out k wr hj.out
    have hsl := SlV.mono HSL.out (At' := ItemAt wr A) (fun _ h => h) fun b o x ha hi => hi.keeps hkr (hA b ha) hA
    rcases hsl with ⟨_, _, h0'⟩ | ⟨b, o, c', hsv, hlc, hAb, hat⟩
    · exact absurd hlt (by rw [h0']; simp)
    · injection hsv with hsv1 hsv2 hsv3
      subst hsv1 hsv3; obtain ⟨i1, i2, bv, i3, i4⟩ := hat k hlt; obtain ⟨a2, c2, rfl⟩ := i4.len; have hxk := HX.out _ (List.getElem_mem hlt); have HYK := Hd (HR.out k hlt); generalize l[k] = x at *
      have hlw := World.block_lt_of_cell? _ _ i1; have HI := Hd i4; have HKR := Hd hkr; have hl' : l.length ≤ c := hlc; clear i4 hkr hat hlc; gi_wp2_with fail
      refine ⟨trivial, callsIn_wide.2 ((told_w (A := A) _ x _ ⟨_, rfl, HI.out.ext ((Keeps.refl _ _).alloc _)⟩ hxk).mono ?_)⟩; rintro e W2 ⟨v', bv', rfl, rfl, hb', hW, hwr⟩; have hE2 := ((Keeps.refl NoB wr).alloc (Obj.cells #[Value.bool x.side, Value.int .i64 x.key, Value.slice a2 x.bytes.length c2] 152)).ext hW; obtain ⟨fn, tmps, assign, body, hy, hRd⟩ := HYK.out _ wr W2 hj.out hE2 ⟨bv', rfl, hb'.mono (fun k hk => by have := hk.1; simp at this; exact ⟨by omega, hk.2⟩), hwr, by have := HJs.out k wr hj.out; omega⟩; have HRd := Hd hRd; clear hRd hb' hW hwr hE2; gi_wp2_with fail
      refine HRd.out.mono ?_; rintro e W3 (⟨rfl, hJ3⟩ | ⟨rfl, hJx3⟩)
      · have HJ3 := Hd hJ3
        clear hJ3; gi_wp2_with fail
        go_roundw
        case rel => exact ⟨k + 1, by omega, by go_num, HJ3.out⟩
        case measure => simp [intOf]; omega
      · have HJ3 := Hd hJx3
        clear hJx3; gi_wp2_with fail
        rw [Exit.noGoto_normal]; refine bodyPost_end (results_none rfl _ _ _) rfl ?_; exact ⟨⟨_, rfl⟩, .inr ⟨k, hlt, HJ3.out⟩⟩
  · have HF : Hid (J l.length wr) := by
     obtain rfl : k = l.length := by omega
     exact hj
    gi_wp2_with fail
    rw [Exit.noGoto_normal]; refine bodyPost_end (results_none rfl _ _ _) rfl ?_; exact ⟨⟨_, rfl⟩, .inl HF.out⟩
end
section
attribute [local go_sem] Oper.semAt_some
def sides (l : List It) : Nat := (l.filter fun x => x.side).length
def mains (l : List It) : Nat := (l.filter fun x => !x.side).length
theorem sides_le (l : List It) : sides l ≤ l.length := List.length_filter_le _ _
theorem mains_le (l : List It) : mains l ≤ l.length := List.length_filter_le _ _
theorem sides_succ (l : List It) (k : Nat) (h : k < l.length) : sides (l.take (k + 1)) = sides (l.take k) + if l[k].side then 1 else 0 := by
 unfold sides; rw [List.take_succ_eq_append_getElem h, List.filter_append, List.length_append]; cases hs : l[k].side <;> simp [hs]
theorem mains_succ (l : List It) (k : Nat) (h : k < l.length) : mains (l.take (k + 1)) = mains (l.take k) + if l[k].side then 0 else 1 := by
 unfold mains; rw [List.take_succ_eq_append_getElem h, List.filter_append, List.length_append]; cases hs : l[k].side <;> simp [hs]
def LenPost (w : World) (l : List It) (e : Ending) (w' : World) : Prop := e = .returned (.tuple #[.int .i64 (mains l : Nat), .int .i64 (sides l : Nat)]) ∧ Ext w w'
set_option maxHeartbeats 2000000 in
theorem len_seq (w : World) (p : Option Addr) (l : List It) (hl : l.length ≤ 1000) (hx : ∀ x ∈ l, x.bytes.length ≤ 1000000)
 (hall : ∀ W, Ext w W → Calls Tryz.prog 167 #[.pointer p] W fun e W' =>
  e = .returned (.func (.func 217) #[] #[.pointer (some ⟨W.heap.size, 0, none⟩)]) ∧ SeqAt W' (fun k => W.heap.size ≤ k ∧ k < W'.heap.size) W.heap.size l ∧ Ext W W') :
 Calls Tryz.prog 104 #[.pointer p] w (LenPost w l) := by
 refine (callsIn_wide (n := 9)).1 (callsIn_of_wp_marks Tryz.func104 rfl trivial ?_ rfl); simp only [Tryz.ntmps104, List.size_toArray, List.length_cons, List.length_nil, Nat.reduceAdd, Nat.reduceSub, Array.replicate_succ, Array.replicate_zero, List.push_toArray, List.append_toArray, List.nil_append, List.cons_append]; have HA := Hd hall; have HX := Hd hx; clear hall hx; gi_wp2_with fail
 have ba0 := ((Box.new w 3 [.int .i64 0]).alloc (Obj.cells #[.int .i64 0] 3)); have ba1 := (Box.new (w.alloc (Obj.cells #[.int .i64 0] 3)) 3 [.int .i64 0]); have ea : Ext w ((w.alloc (Obj.cells #[.int .i64 0] 3)).alloc (Obj.cells #[.int .i64 0] 3)) := (((Keeps.refl NoB w).alloc _).alloc _); have sa : ((w.alloc (Obj.cells #[.int .i64 0] 3)).alloc (Obj.cells #[.int .i64 0] 3)).heap.size = w.heap.size + 2 := by simp
 simp only [World.size_alloc] at ba1; generalize ((w.alloc (Obj.cells #[.int .i64 0] 3)).alloc (Obj.cells #[.int .i64 0] 3)) = w0 at ba0 ba1 ea sa ⊢
 have Sa := Hd sa; clear sa; have HEa := Hd ea; have BA := Hd ba0; have BB := Hd ba1; clear ea ba0 ba1; refine ⟨trivial, callsIn_wide.2 ((HA.out w0 HEa.out).mono ?_)⟩; rintro e w1 ⟨rfl, hs, hE1⟩; have HS := Hd hs; have HE1 := Hd hE1; have B0 := Hd (BA.out.ext hE1); have B1 := Hd (BB.out.ext hE1); have hsz1 := hE1.size; clear hs hE1; gi_wp2_with fail
 have hsz := Sa.out
 refine wpIn_range rfl (by omega) (gf := 217) (lb := #[.pointer (some ⟨w0.heap.size, 0, none⟩)]) rfl trivial (enters_of Tryz.func217 (by kernel_rfl) rfl)
  (S := fun b => b = w.heap.size ∨ b = w.heap.size + 1) (iter_ring w1 w0.heap.size l HS.out (by omega) (fun k h1 h2 => by omega) HX.out hl) (by rintro x v W0 W ⟨bv, rfl, _⟩; rfl)
  (fun k W => Keeps (fun b => b = w.heap.size ∨ b = w.heap.size + 1) w1 W ∧ Box W w.heap.size 3 [.int .i64 (mains (l.take k) : Nat)] ∧ Box W (w.heap.size + 1) 3 [.int .i64 (sides (l.take k) : Nat)])
  (fun _ _ _ => False) (fun k W h => h.1)
  (fun k W W' h hk => ⟨h.1.then hk (fun i hi h => by unfold OneB at h; omega), h.2.1.keeps hk (by unfold OneB; omega), h.2.2.keeps hk (by unfold OneB; omega)⟩)
  (fun _ _ _ _ h _ => h) ⟨Keeps.refl _ _, by simpa [mains] using B0.out, by simpa [sides] using B1.out⟩ ?_ ?_ (fun _ _ _ _ h _ => h.elim)
 · rintro k hk v W0 W - hE0 ⟨hkW, hb0, hb1⟩ ⟨bv, rfl, hbv, hwr, hn⟩ hlt0 hlt
   obtain ⟨a, c, rfl⟩ := hbv.len; have HKW := Hd hkW; have HB0 := Hd hb0; have HB1 := Hd hb1; clear hkW hb0 hb1 hbv hwr hE0; gi_wp2_with fail
   refine ⟨(Keeps.refl _ _).alloc _, fun W2 hW2 => ?_⟩; have bx := (Box.new W 152 [.bool l[k].side, .int .i64 l[k].key, .slice a l[k].bytes.length c]).keeps hW2 (by unfold OneB; omega); have b0 := (HB0.out.alloc (Obj.cells #[.bool l[k].side, .int .i64 l[k].key, .slice a l[k].bytes.length c] 152)).keeps hW2 (by unfold OneB; omega); have b1 := (HB1.out.alloc (Obj.cells #[.bool l[k].side, .int .i64 l[k].key, .slice a l[k].bytes.length c] 152)).keeps hW2 (by unfold OneB; omega); have hkW2 : Keeps (fun b => b = w.heap.size ∨ b = w.heap.size + 1) w1 W2 := (HKW.out.alloc _).then hW2 (fun i hi h => by unfold OneB at h; omega); obtain ⟨cx, zx⟩ := bx.reads; obtain ⟨c0, z0⟩ := b0.reads; obtain ⟨c1, z1⟩ := b1.reads; have lx := bx.lt; have l0 := b0.lt; have l1 := b1.lt; have hms := mains_succ l k hk; have hss := sides_succ l k hk; have hm1 := mains_le (l.take k); have hm2 := sides_le (l.take k); have hlk : (l.take k).length ≤ k := List.length_take_le _ _; cases hsd : l[k].side with
   | true =>
     rw [hsd] at cx hms hss; have HM := Hd hms; have HS2 := Hd hss; have HK2 := Hd hkW2; have C0 := Hd b0; have C1 := Hd b1; clear hms hss hkW2 b0 b1 bx hW2 hsd hsz; gi_wp2_with fail
     refine ⟨(Keeps.refl _ _).setCell _ _ (.inl (.inl ⟨by show w.heap.size + 1 < _; have := Sa.out; omega, .inr rfl⟩)), HK2.out.setCell _ _ (.inl (.inr rfl)), ?_, ?_⟩
     · rw [HM.out]; exact C0.out.other _ _ (by show w.heap.size ≠ w.heap.size + 1; omega)
     · rw [HS2.out]; exact C1.out.set 0 _
   | false =>
     rw [hsd] at cx hms hss; have HM := Hd hms; have HS2 := Hd hss; have HK2 := Hd hkW2; have C0 := Hd b0; have C1 := Hd b1; clear hms hss hkW2 b0 b1 bx hW2 hsd hsz; gi_wp2_with fail
     refine ⟨(Keeps.refl _ _).setCell _ _ (.inl (.inl ⟨by show w.heap.size < _; have := Sa.out; omega, .inl rfl⟩)), HK2.out.setCell _ _ (.inl (.inl rfl)), ?_, ?_⟩
     · rw [HM.out]; exact C0.out.set 0 _
     · rw [HS2.out]; exact C1.out.other _ _ (by show w.heap.size + 1 ≠ w.heap.size; omega)
 · rintro W ⟨hkW, hb0, hb1⟩ hm
   rw [List.take_of_length_le (Nat.le_refl _)] at hb0 hb1; obtain ⟨c0, z0⟩ := hb0.reads; obtain ⟨c1, z1⟩ := hb1.reads; have l0 := hb0.lt; have l1 := hb1.lt; have HK := Hd hkW; have HM := Hd hm; have C0 := Hd hb0; have C1 := Hd hb1; clear hkW hb0 hb1 hm hsz; gi_wp2_with fail
   refine wpIn_wide.2 (wp_region_noPanic ?_); have hE0 : Keeps (OneB w.heap.size) W W.drew := (Keeps.refl _ _).drew; refine wp_region_plan [(3, 0), (1, 1), (2, 2)] [1] [2, 3] [3] (ClsK (OneB w.heap.size) W) (by kernel_rfl) (by kernel_rfl) (by kernel_rfl) rfl rfl (ClsK.of hE0) (fun _ _ _ _ _ h => h) ?_; simp only [planL, nL]; refine pX rfl (by go_simp <;> with_reducible rfl) ?_; simp only [nP]; refine pK rfl (fun W => by go_simp <;> with_reducible rfl) ?_; simp only [nP]; refine plan_does rfl (fun K hK => ?_); go_wp2_with fail; refine ⟨ClsK.of (by repeat (first | assumption | exact Keeps.refl _ _ | refine Keeps.alloc ?_ _ | refine Keeps.setOne ?_ _ _ | refine Keeps.setCell ?_ _ _ (.inl (by first | rfl | exact .inl rfl | exact .inr rfl | omega)) | refine Keeps.drew ?_)), ?_⟩; try simp only [nP]
   refine plan_nil ?_; simp only [tailL, List.filterMap_cons, List.filterMap_nil, nL]; change wpList _ _ _ (_ :: []) _ _; go_wp2_with fail; refine NoPanic.ok ?_; gi_wp2
   have hsz := Sa.out; refine leaves_marks [w1.heap.size] _ (by simp) ?_ ?_
   · intro D hD
     obtain rfl : D = w1.heap.size := by simpa using hD
     refine (HM.out.keeps (S := fun b => b = w.heap.size ∨ b = w.heap.size + 1) ?_ (by omega)); repeat (first | exact Keeps.refl _ _ | refine Keeps.drew ?_ | refine Keeps.setCell ?_ _ _ (.inl (.inl rfl)) | refine Keeps.setCell ?_ _ _ (.inl (.inr rfl)))
   · intro w' hk
     have q0 : Box w' w.heap.size 3 [.int .i64 (mains l : Nat)] := by
      refine Box.keeps (w := _) ?_ hk (by simp; omega); exact ((C0.out.set 0 (.int .i64 (mains l : Nat))).other _ _ (by show w.heap.size ≠ w.heap.size + 1; omega)).drew
     have q1 : Box w' (w.heap.size + 1) 3 [.int .i64 (sides l : Nat)] := by
      refine Box.keeps (w := _) ?_ hk (by simp; omega); exact ((C1.out.other _ _ (by show w.heap.size + 1 ≠ w.heap.size; omega)).set 0 (.int .i64 (sides l : Nat))).drew
     refine ⟨.tuple #[.int .i64 (mains l : Nat), .int .i64 (sides l : Nat)], ?_, rfl, ?_⟩
     · simp [results, Tryz.results104, go_sem, q0.reads.1, q1.reads.1]
     · have h1 : Keeps (fun b => b = w.heap.size ∨ b = w.heap.size + 1) w1 (((W.setCell ⟨w.heap.size, 0, none⟩ (.int .i64 (mains l : Nat))).setCell ⟨w.heap.size + 1, 0, none⟩ (.int .i64 (sides l : Nat))).drew) := by
        have := HK.out; repeat (first | exact this | refine Keeps.drew ?_ | refine Keeps.setCell ?_ _ _ (.inl (.inl rfl)) | refine Keeps.setCell ?_ _ _ (.inl (.inr rfl)))
       have h2 := (HEa.out.ext HE1.out).then h1 (fun i hi h => by omega); exact h2.then hk (fun i hi h => by simp at h; omega)
theorem len_ring {A : Nat → Prop} (w : World) (b f : Nat) (R : AR) (h : RingAt w A b f R) (hx : ∀ x ∈ R.items, x.bytes.length ≤ 1000000) :
 Calls Tryz.prog 104 #[.pointer (some ⟨b, 0, none⟩)] w (LenPost w R.items) :=
 len_seq w _ R.items (by have := h.hl; have := h.hm; omega) hx fun W hW => all_ring W b f R (h.ext hW) hx
theorem clear_ring {A : Nat → Prop} (w : World) (b f m l : Nat) (its : List It) (h : RingAt w A b f ⟨m, l, its⟩) (hA : ¬ A b) (hAl : ∀ k, A k → k < w.heap.size) :
 Calls Tryz.prog 103 #[.pointer (some ⟨b, 0, none⟩)] w fun e w' =>
  e = .returned (.int .i64 (its.length : Nat)) ∧ (∃ f', RingAt w' A b f' ⟨m, l, []⟩) ∧ Keeps (OneB b) w w' := by
 have hm : m ≤ 64 := h.hm; have hl : its.length ≤ m := h.hl; have HR := Hd h; have HA := Hd hAl; clear h hAl; go_enter Tryz.func103, Tryz.ntmps103
 go_wp2_with fail; go_loopw [2] (fun t wr => ∃ k : Nat, k ≤ its.length ∧ t = .int .i64 k ∧ Hid (∃ f', RingAt wr A b f' ⟨m, l, its.drop k⟩ ∧ Keeps (OneB b) w wr)) (fun t _ => its.length - (intOf t).toNat)
 case atStart => exact ⟨0, by omega, rfl, f, by simpa using HR.out, Keeps.refl _ _⟩
 case round =>
  obtain ⟨k, hk, rfl, hh⟩ := hrel; obtain ⟨f', hr, hkp⟩ := hh.out; have HK := Hd hkp; by_cases hlt : k < its.length
  · rw [List.drop_eq_getElem_cons hlt] at hr
    have HR1 := Hd hr; clear hr hkp hh; go_wp2_with fail; refine (take_ring wr b f' m l _ _ HR1.out hA (fun k hk => Nat.lt_of_lt_of_le (HA.out k hk) HK.out.size)).mono ?_; rintro e w1 ⟨v, rfl, ⟨bv, rfl, hbv⟩, hr1, hk1⟩; obtain ⟨a, c, rfl⟩ := hbv.len; have hb1 := hr1.lt; have HR2 := Hd hr1; have HK1 := Hd (HK.out.trans hk1); have HAw : Hid (∀ k, A k → k < w1.heap.size) := fun k hk => Nat.lt_of_lt_of_le (HA.out k hk) (Nat.le_trans HK.out.size hk1.size)
    clear hbv hr1 hk1; go_wp2_with fail; go_roundw
    case rel =>
     refine ⟨k + 1, by omega, by go_num, (f' + 1) % m, ?_, ?_⟩
     · exact HR2.out.ext ((Keeps.refl _ _).alloc _)
     · exact HK1.out.alloc _
    case measure => simp [intOf]; omega
  · rw [List.drop_eq_nil_of_le (by omega)] at hr
    have hkl : k = its.length := by omega
    have HKL := Hd hkl; have HR1 := Hd hr; clear hr hkp hh hkl; go_wp2_with fail; refine (take_empty wr b f' m l HR1.out).mono ?_; rintro e w1 ⟨rfl, hE⟩; have HE := Hd hE; clear hE; go_wp2_with fail; go_ret; refine ⟨by rw [← HKL.out]; rfl, ⟨f', HR1.out.ext (HE.out.alloc _)⟩, HK.out.ext (HE.out.alloc _)⟩
end
def RingX (w : World) (N : Nat → Prop) (b : Nat) (R : AR) : Prop := ∃ f A, RingAt w A b f R ∧ ¬ A b ∧ ∀ k, A k → k < w.heap.size ∧ ¬ N k
theorem RingX.keeps {w w' : World} {N S : Nat → Prop} {b : Nat} {R : AR} (h : RingX w N b R) (hk : Keeps S w w') (hs : ∀ k, S k → N k) (hb : ¬ S b) : RingX w' N b R :=
 let ⟨f, A, h1, h2, h3⟩ := h
 ⟨f, A, h1.keeps hk hb fun k ha hS => (h3 k ha).2 (hs k hS), h2, fun k ha => ⟨Nat.lt_of_lt_of_le (h3 k ha).1 hk.size, (h3 k ha).2⟩⟩
theorem RingX.ext {w w' : World} {N : Nat → Prop} {b : Nat} {R : AR} (h : RingX w N b R) (hk : Ext w w') : RingX w' N b R := h.keeps hk (fun _ h => (noB _ h).elim) (noB _)
theorem RingX.lt {w : World} {N : Nat → Prop} {b : Nat} {R : AR} (h : RingX w N b R) : b < w.heap.size := let ⟨_, _, h1, _⟩ := h; h1.lt
end Go.Proofs.YtoadjbgpfihoiaaGreatDoor
