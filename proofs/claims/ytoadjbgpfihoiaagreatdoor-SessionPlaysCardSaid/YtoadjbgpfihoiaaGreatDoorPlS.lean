/- Texts RingC, RingD, one behind the other. Conditions: as each says. -/
import Derived.Test.YtoadjbgpfihoiaaGreatDoorPlK
import Derived.Test.YtoadjbgpfihoiaaGreatDoorPlN
set_option linter.unusedVariables false
set_option linter.unusedSimpArgs false
set_option maxHeartbeats 8000000
set_option maxRecDepth 100000
namespace Go.Proofs.YtoadjbgpfihoiaaGreatDoor
open Go.RowKit
def qRingC0 : List (Nat × Nat) := [(3, 0), (0, 1), (0, 2), (0, 3), (3, 4), (3, 5), (0, 6), (0, 7), (3, 8), (0, 9), (0, 10)]
theorem RingAt.store3 {w : World} {A B : Nat → Prop} {b f q : Nat} {R R' : AR} {x : It} {bv : Value} (h : RingAt w A b f R) (hA : ¬ A b) (hq64 : q < 64) (hb : Bytes w B bv x.bytes) (hB : ¬ B b)
 (h1 : R'.most = R.most) (h2 : R'.lost = R.lost) (h3 : R'.items.length = R.items.length)
 (h4 : ∀ i (h : i < R'.items.length), if (f + i) % R.most = q then R'.items[i] = x else R'.items[i] = R.items[i]'(by omega)) :
 RingAt (((w.setCell ⟨b, 4 + q * 3, none⟩ (.bool x.side)).setCell ⟨b, 4 + q * 3 + 1, none⟩ (.int .i64 x.key)).setCell ⟨b, 4 + q * 3 + 2, none⟩ bv) (fun k => A k ∨ B k) b f R' := by
 have hk : Keeps (OneB b) w (((w.setCell ⟨b, 4 + q * 3, none⟩ (.bool x.side)).setCell ⟨b, 4 + q * 3 + 1, none⟩ (.int .i64 x.key)).setCell ⟨b, 4 + q * 3 + 2, none⟩ bv) :=
  (((Keeps.refl (OneB b) w).setOne _ _).setOne _ _).setOne _ _
 have hAn : ∀ k, A k → ¬ OneB b k := fun k h1 h2 => hA (by unfold OneB at h2; rwa [← h2])
 have hBn : ∀ k, B k → ¬ OneB b k := fun k h1 h2 => hB (by unfold OneB at h2; rwa [← h2])
 have sm : ∀ o, o < 196 → (w.cell? ⟨b, o, none⟩).isSome = true := fun o ho => by obtain ⟨v, hv⟩ := h.has o ho; rw [hv]; rfl
 refine ⟨fun o => by simp [h.fz], fun o ho => has_set _ (has_set _ (has_set _ (h.has o ho))), ?_, ?_, ?_, ?_, by rw [h1]; exact h.hf, by rw [h1]; exact h.hm, by rw [h1, h3]; exact h.hl, ?_⟩
 · rw [cell_keep _ _ _ _ _ _ (by omega), cell_keep _ _ _ _ _ _ (by omega), cell_keep _ _ _ _ _ _ (by omega)]; exact h.c0
 · rw [cell_keep _ _ _ _ _ _ (by omega), cell_keep _ _ _ _ _ _ (by omega), cell_keep _ _ _ _ _ _ (by omega), h3]; exact h.c1
 · rw [cell_keep _ _ _ _ _ _ (by omega), cell_keep _ _ _ _ _ _ (by omega), cell_keep _ _ _ _ _ _ (by omega), h2]; exact h.c2
 · rw [cell_keep _ _ _ _ _ _ (by omega), cell_keep _ _ _ _ _ _ (by omega), cell_keep _ _ _ _ _ _ (by omega), h1]; exact h.c3
 · intro i hi
   have hi4 := h4 i hi; rw [h1]; by_cases he : (f + i) % R.most = q
   · rw [if_pos he] at hi4
     rw [he, hi4]; refine ⟨?_, ?_, bv, ?_, (hb.keeps hk hBn).mono fun k hk => .inr hk⟩
     · rw [cell_keep _ _ _ _ _ _ (by omega), cell_keep _ _ _ _ _ _ (by omega), cell_put _ _ _ _ (sm _ (by omega))]
     · rw [cell_keep _ _ _ _ _ _ (by omega), cell_put _ _ _ _ (by rw [cell_keep _ _ _ _ _ _ (by omega)]; exact sm _ (by omega))]
     · rw [cell_put _ _ _ _ (by rw [cell_keep _ _ _ _ _ _ (by omega), cell_keep _ _ _ _ _ _ (by omega)]; exact sm _ (by omega))]
   · rw [if_neg he] at hi4
     rw [hi4]; obtain ⟨i1, i2, v, i3, i4⟩ := h.it i (by omega); refine ⟨?_, ?_, v, ?_, (i4.keeps hk hAn).mono fun k hk => .inl hk⟩; all_goals rw [cell_keep _ _ _ _ _ _ (by omega), cell_keep _ _ _ _ _ _ (by omega), cell_keep _ _ _ _ _ _ (by omega)]
     all_goals assumption
theorem RingAt.one {w : World} {A : Nat → Prop} {b f : Nat} {R : AR} (h : RingAt w A b f R) (hA : ¬ A b) (n l : Nat) (hn : n ≤ R.items.length) :
 RingAt (w.setCell ⟨b, 1, none⟩ (.int .i64 (n : Int))) A b f { R with items := R.items.take n } ∧ RingAt (w.setCell ⟨b, 2, none⟩ (.int .i64 (l : Int))) A b f { R with lost := l } := by
 have hAn : ∀ k, A k → ¬ OneB b k := fun k h1 h2 => hA (by unfold OneB at h2; rwa [← h2])
 have sm : ∀ o, o < 196 → (w.cell? ⟨b, o, none⟩).isSome = true := fun o ho => by obtain ⟨v, hv⟩ := h.has o ho; rw [hv]; rfl
 constructor
 · have hk : Keeps (OneB b) w (w.setCell ⟨b, 1, none⟩ (.int .i64 (n : Int))) := (Keeps.refl (OneB b) w).setOne _ _
   have hl := h.hl; refine ⟨fun o => by simp [h.fz], fun o ho => has_set _ (h.has o ho), ?_, ?_, ?_, ?_, h.hf, h.hm, by simp; omega, ?_⟩
   · rw [cell_keep _ _ _ _ _ _ (by omega)]; exact h.c0
   · rw [cell_put _ _ _ _ (sm _ (by omega))]; simp; omega
   · rw [cell_keep _ _ _ _ _ _ (by omega)]; exact h.c2
   · rw [cell_keep _ _ _ _ _ _ (by omega)]; exact h.c3
   · intro i hi
     simp only [List.length_take] at hi; simp only [List.getElem_take]; obtain ⟨i1, i2, v, i3, i4⟩ := h.it i (by omega); refine ⟨?_, ?_, v, ?_, i4.keeps hk hAn⟩; all_goals rw [cell_keep _ _ _ _ _ _ (by omega)]
     all_goals assumption
 · have hk : Keeps (OneB b) w (w.setCell ⟨b, 2, none⟩ (.int .i64 (l : Int))) := (Keeps.refl (OneB b) w).setOne _ _
   refine ⟨fun o => by simp [h.fz], fun o ho => has_set _ (h.has o ho), ?_, ?_, ?_, ?_, h.hf, h.hm, h.hl, ?_⟩
   · rw [cell_keep _ _ _ _ _ _ (by omega)]; exact h.c0
   · rw [cell_keep _ _ _ _ _ _ (by omega)]; exact h.c1
   · rw [cell_put _ _ _ _ (sm _ (by omega))]
   · rw [cell_keep _ _ _ _ _ _ (by omega)]; exact h.c3
   · intro i hi
     obtain ⟨i1, i2, v, i3, i4⟩ := h.it i hi; refine ⟨?_, ?_, v, ?_, i4.keeps hk hAn⟩; all_goals rw [cell_keep _ _ _ _ _ _ (by omega)]
     all_goals assumption
theorem mod_inj {f i j m : Nat} (hi : i < m) (hj : j < m) (h : (f + i) % m = (f + j) % m) : i = j := by
 rcases Nat.lt_trichotomy i j with hlt | he | hgt
 · exact absurd h (mod_ne hlt hj)
 · exact he
 · exact absurd h.symm (mod_ne hgt hi)
set_option maxHeartbeats 1000000 in
theorem cut_ring {A : Nat → Prop} (w : World) (b f : Nat) (R : AR) (i : Nat) (h : RingAt w A b f R) (hA : ¬ A b) (hi : i < R.items.length) :
 Calls Tryz.prog 166 #[.pointer (some ⟨b, 0, none⟩), .int .i64 (i : Int)] w fun e w' =>
  e = .returned noResult ∧ RingAt w' A b f { R with items := R.items.eraseIdx i } ∧ Keeps (OneB b) w w' := by
 have hl := h.hl; have hm := h.hm; have hf := h.hf; have HR := Hd h; clear h; go_enter Tryz.func166, Tryz.ntmps166
 go_wp2_with fail
 go_loopw [1] (fun t wr => ∃ (k : Nat) (L : List It), i ≤ k ∧ k < R.items.length ∧ t = .int .i64 k ∧ Hid (L.length = R.items.length ∧ (∀ p, L[p]? = if i ≤ p ∧ p < k then R.items[p + 1]? else R.items[p]?) ∧ RingAt wr A b f { R with items := L } ∧ Keeps (OneB b) w wr))
  (fun t _ => R.items.length - (intOf t).toNat)
 case atStart => exact ⟨i, R.items, Nat.le_refl _, hi, rfl, rfl, fun p => by rw [if_neg (by omega)], HR.out, Keeps.refl _ _⟩
 case round =>
  obtain ⟨k, L, hik, hk, rfl, hh⟩ := hrel; obtain ⟨hL, hp, hr, hkp⟩ := hh.out; have g1 : wr.cell? ⟨b, 1, none⟩ = some (.int .i64 (R.items.length : Int)) := by have := hr.c1; simpa [hL] using this
  have HH := hh; clear hh; by_cases hlt : k + 1 < R.items.length
  · obtain ⟨q, hq⟩ : ∃ q, (f + k) % R.most = q := ⟨_, rfl⟩
    obtain ⟨q', hq'⟩ : ∃ q', (f + (k + 1)) % R.most = q' := ⟨_, rfl⟩; have hq64 : q < 64 := by have := Nat.mod_lt (f + k) (show 0 < R.most by omega); omega
    have hq64' : q' < 64 := by have := Nat.mod_lt (f + (k + 1)) (show 0 < R.most by omega); omega
    have HR1 := Hd hr; have HQ := Hd hq; have HQ' := Hd hq'; have HK := Hd hkp; have HL := Hd hL; have HP := Hd hp; clear hr hq hq' hkp hL hp HH; go_wp2_with fail; refine (at_ring HR1.out k (by omega) _ rfl q HQ.out).mono ?_; rintro e W1 ⟨rfl, hW1⟩; have HR2 := Hd (HR1.out.ext hW1); have HE1 := Hd hW1; clear hW1; go_wp2_with fail; refine (at_ring HR2.out (k + 1) (by omega) _ (by simp) q' HQ'.out).mono ?_; rintro e W2 ⟨rfl, hW2⟩; have hr3 := HR2.out.ext hW2; have hk1 : k + 1 < L.length := by have := HL.out; omega
    obtain ⟨i1, i2, bv, i3, i4⟩ := hr3.it (k + 1) hk1; simp only [HQ'.out] at i1 i2 i3; obtain ⟨a, c, rfl⟩ := i4.len; obtain ⟨z0, hz0⟩ := hr3.has (4 + q * 3) (by omega); obtain ⟨z1, hz1⟩ := hr3.has (4 + q * 3 + 1) (by omega); obtain ⟨z2, hz2⟩ := hr3.has (4 + q * 3 + 2) (by omega); have hfz := hr3.fz; have HR3 := Hd hr3; have HI := Hd i4; have HE2 := Hd (HE1.out.ext hW2); clear hr3 i4 hW2; dsimp only at i1 i2 i3; generalize hx : L[k + 1] = x at *
    have HX := Hd hx; clear hx; go_wp2_with fail; go_roundw
    case rel =>
     refine ⟨k + 1, L.set k x, by omega, by omega, by go_num, by simpa using HL.out, fun p => ?_, ?_, ?_⟩
     · have hL := HL.out
       have hp := HP.out; have hx := HX.out; rw [List.getElem?_set]; by_cases hkp : k = p
       · subst hkp
         rw [if_pos rfl, if_pos (by omega), if_pos (by omega)]; have := hp (k + 1); rw [if_neg (by omega), List.getElem?_eq_getElem hk1, hx] at this; exact this
       · rw [if_neg hkp, hp p]
         by_cases hc : i ≤ p ∧ p < k
         · rw [if_pos hc, if_pos (by omega)]
         · rw [if_neg hc, if_neg (by omega)]
     · refine (RingAt.store3 (B := A) (R' := { R with items := L.set k x }) HR3.out hA hq64 HI.out hA rfl rfl (by simp) ?_).mono (fun _ h => h.elim id id)
       intro j hj; simp only [List.length_set] at hj; have hL := HL.out; by_cases hjk : (f + j) % R.most = q
       · rw [if_pos hjk]
         obtain rfl : j = k := mod_inj (f := f) (m := R.most) (by omega) (by omega) (hjk.trans HQ.out.symm); simp
       · rw [if_neg hjk]
         have hne : k ≠ j := by rintro rfl; exact hjk HQ.out
         simp [hne]
     · have := HK.out.ext HE2.out
       repeat (first | exact this | refine Keeps.setOne ?_ _ _)
    case measure => simp [intOf]; omega
  · obtain rfl : k = R.items.length - 1 := by omega
    obtain ⟨n, hn⟩ : ∃ n, R.items.length = n + 1 := ⟨R.items.length - 1, by omega⟩; have hLn : L.length = n + 1 := by omega
    have g1' : wr.cell? ⟨b, 1, none⟩ = some (.int .i64 ((n : Int) + 1)) := by rw [g1, hn]; simp
    have hfz := hr.fz; obtain ⟨hr1, _⟩ := hr.one hA n 0 (by show n ≤ L.length; omega); obtain ⟨q, hq⟩ : ∃ q, (f + n) % R.most = q := ⟨_, rfl⟩; have hq64 : q < 64 := by have := Nat.mod_lt (f + n) (show 0 < R.most by omega); omega
    have hts : IntKind.i64.wrap ((n : Int) + 1 - 1) = (n : Int) := by rw [IntWalk.i64_in _ (by omega)]; omega
    have HN := Hd hn; have HL := Hd hLn; have HP := Hd hp; have HK := Hd hkp; have HR1 := Hd hr1; have HQ := Hd hq; have hn64 : n ≤ 64 := by omega
    have hex : ((R.items.length - 1 : Nat) : Int) + 1 = (n : Int) + 1 := by omega
    have hexN : R.items.length - 1 = n := by omega
    have hr1fz : ∀ o, (wr.setCell ⟨b, 1, none⟩ (.int .i64 (n : Int))).frozen? ⟨b, o, none⟩ = false := hr1.fz; clear hn hLn hp hkp hr1 hq hr g1 hL HH; rw [hexN]; clear hex hexN; have hnot : ¬ ((n : Int) + 1 < (n : Int) + 1) := by omega
    go_wp2_with fail; refine (at_ring HR1.out n (by omega) _ rfl q HQ.out).mono ?_; rintro e W1 ⟨rfl, hW1⟩; have hr3 := HR1.out.ext hW1; obtain ⟨z0, hz0⟩ := hr3.has (4 + q * 3) (by omega); obtain ⟨z1, hz1⟩ := hr3.has (4 + q * 3 + 1) (by omega); obtain ⟨z2, hz2⟩ := hr3.has (4 + q * 3 + 2) (by omega); have hfz3 := hr3.fz; have HR3 := Hd hr3; have HE1 := Hd hW1; clear hr3 hW1; go_wp2_with fail; go_end0
    have hL := HL.out; have hn := HN.out; have hp := HP.out
    have hLe : L.take n = R.items.eraseIdx i := by
     apply List.ext_getElem?
     intro p; rw [List.getElem?_take, List.getElem?_eraseIdx, hp p]; have hpn : R.items.length - 1 = n := by omega
     rw [hpn]; by_cases h1 : p < n
     · rw [if_pos h1]
       by_cases h2 : i ≤ p
       · rw [if_pos ⟨h2, h1⟩, if_neg (by omega)]
       · rw [if_neg (by omega), if_pos (by omega)]
     · rw [if_neg h1]
       by_cases h2 : p < i
       · omega
       · rw [if_neg h2, List.getElem?_eq_none (by omega)]
    refine ⟨rfl, ?_, ?_⟩
    · have := (RingAt.store3 (B := A) (x := ⟨false, 0, []⟩) (bv := .slice none 0 0) (R' := { R with items := L.take n }) HR3.out hA hq64 (.inl ⟨none, rfl, rfl⟩) hA rfl rfl rfl ?_).mono (A' := A) (fun _ h => h.elim id id)
      · rw [hLe] at this; exact this
      · intro j hj
        simp only [List.length_take] at hj; rw [if_neg]; intro hjn; have := mod_inj (f := f) (m := R.most) (i := j) (j := n) (by omega) (by omega) (hjn.trans HQ.out.symm); omega
    · have := (HK.out.setOne 1 (.int .i64 (n : Int))).ext HE1.out
      repeat (first | exact this | refine Keeps.setOne ?_ _ _)
def AR.put (R : AR) (x : It) : AR × Nat × Nat :=
 if !x.side && x.key != 0 then (R, 0, 2)
 else if 1024 < x.bytes.length then (R, 0, 3)
 else match R.items.findIdx? (p33 x) with
  | some i => ({ R with items := R.items.set i x, lost := R.lost + 1 }, 1, 0)
  | none =>
    if R.items.length < R.most then ({ R with items := R.items ++ [x] }, 0, 0)
    else match R.items.findIdx? p34 with
     | some i => ({ R with items := R.items.eraseIdx i ++ [x], lost := R.lost + 1 }, 1, 0)
     | none => if x.side then ({ R with lost := R.lost + 1 }, 1, 0) else (R, 0, 350)
def PutPost (w : World) (A : Nat → Prop) (b f : Nat) (R : AR) (x : It) (e : Ending) (w' : World) : Prop :=
 e = .returned (.tuple #[.int .i64 ((R.put x).2.1 : Nat), .int .i64 ((R.put x).2.2 : Nat)]) ∧ RingAt w' (fun k => A k ∨ (w.heap.size ≤ k ∧ k < w'.heap.size)) b f (R.put x).1 ∧ Keeps (OneB b) w w'
theorem PutPost.mk {w w' : World} {A : Nat → Prop} {b f n m : Nat} {R R' : AR} {x : It} (hR : R.put x = (R', n, m)) (h : RingAt w' (fun k => A k ∨ (w.heap.size ≤ k ∧ k < w'.heap.size)) b f R') (hk : Keeps (OneB b) w w') :
 PutPost w A b f R x (.returned (.tuple #[.int .i64 (n : Int), .int .i64 (m : Int)])) w' := by
 unfold PutPost; rw [hR]; exact ⟨rfl, h, hk⟩
theorem or_mono {A : Nat → Prop} {n m n' m' : Nat} (h : n' ≤ n) (h' : m ≤ m') (k : Nat) : A k ∨ (n ≤ k ∧ k < m) → A k ∨ (n' ≤ k ∧ k < m') := by
 rintro (h1 | h1)
 · exact .inl h1
 · exact .inr (by omega)
set_option maxHeartbeats 4000000 in
theorem put_ring {A B : Nat → Prop} (w : World) (b f : Nat) (R : AR) (x : It) (v : Value) (h : RingAt w A b f R) (hA : ¬ A b) (hv : ItemV w B v x) (hBb : ¬ B b) (hx : x.bytes.length ≤ 1000000) (hlost : R.lost ≤ 1000000) :
 Calls Tryz.prog 93 #[.pointer (some ⟨b, 0, none⟩), v] w (PutPost w A b f R x) := by
 obtain ⟨bv, rfl, hb⟩ := hv; obtain ⟨a, c, rfl⟩ := hb.len; have hbl := h.lt; have HR := Hd h; have HB := Hd hb; clear h hb; go_enter Tryz.func93, Tryz.ntmps93
 go_wp2_with fail; have ba0 := (((Box.new w 97 [.pointer (some ⟨b, 0, none⟩)]).alloc (Obj.cells #[.bool x.side, .int .i64 x.key, .slice a x.bytes.length c] 152)).alloc (Obj.cells #[.func (.func 156) #[] #[.pointer (some ⟨w.heap.size, 0, none⟩)], .int .i64 1, .func (.func 158) #[] #[], .int .i64 2, .func (.func 159) #[] #[], .int .i64 3] 230)); have ba1 := ((Box.new (w.alloc (Obj.cells #[.pointer (some ⟨b, 0, none⟩)] 97)) 152 [.bool x.side, .int .i64 x.key, .slice a x.bytes.length c]).alloc (Obj.cells #[.func (.func 156) #[] #[.pointer (some ⟨w.heap.size, 0, none⟩)], .int .i64 1, .func (.func 158) #[] #[], .int .i64 2, .func (.func 159) #[] #[], .int .i64 3] 230)); have ba2 := (Box.new ((w.alloc (Obj.cells #[.pointer (some ⟨b, 0, none⟩)] 97)).alloc (Obj.cells #[.bool x.side, .int .i64 x.key, .slice a x.bytes.length c] 152)) 230 [.func (.func 156) #[] #[.pointer (some ⟨w.heap.size, 0, none⟩)], .int .i64 1, .func (.func 158) #[] #[], .int .i64 2, .func (.func 159) #[] #[], .int .i64 3]); have ea : Ext w (((w.alloc (Obj.cells #[.pointer (some ⟨b, 0, none⟩)] 97)).alloc (Obj.cells #[.bool x.side, .int .i64 x.key, .slice a x.bytes.length c] 152)).alloc (Obj.cells #[.func (.func 156) #[] #[.pointer (some ⟨w.heap.size, 0, none⟩)], .int .i64 1, .func (.func 158) #[] #[], .int .i64 2, .func (.func 159) #[] #[], .int .i64 3] 230)) := ((((Keeps.refl NoB w).alloc _).alloc _).alloc _); have sa : (((w.alloc (Obj.cells #[.pointer (some ⟨b, 0, none⟩)] 97)).alloc (Obj.cells #[.bool x.side, .int .i64 x.key, .slice a x.bytes.length c] 152)).alloc (Obj.cells #[.func (.func 156) #[] #[.pointer (some ⟨w.heap.size, 0, none⟩)], .int .i64 1, .func (.func 158) #[] #[], .int .i64 2, .func (.func 159) #[] #[], .int .i64 3] 230)).heap.size = w.heap.size + 3 := by simp
 simp only [World.size_alloc] at ba1 ba2; generalize (((w.alloc (Obj.cells #[.pointer (some ⟨b, 0, none⟩)] 97)).alloc (Obj.cells #[.bool x.side, .int .i64 x.key, .slice a x.bytes.length c] 152)).alloc (Obj.cells #[.func (.func 156) #[] #[.pointer (some ⟨w.heap.size, 0, none⟩)], .int .i64 1, .func (.func 158) #[] #[], .int .i64 2, .func (.func 159) #[] #[], .int .i64 3] 230)) = w0 at ba0 ba1 ba2 ea sa ⊢
 have Sa := Hd sa; clear sa; have HRa := Hd (HR.out.ext ea); have HBa := Hd (HB.out.ext ea); have H0 := Hd ba0; have H1 := Hd ba1; have H2 := Hd ba2; have HEa := Hd ea; clear ba0 ba1 ba2 ea; go_loopw [16] (fun t wr => ∃ k : Nat, k ≤ 3 ∧ t = .int .i64 k ∧ Ext w0 wr ∧ Hid ((2 ≤ k → (!x.side && x.key != 0) = false) ∧ (3 ≤ k → decide (1024 < x.bytes.length) = false))) (fun t _ => 3 - (intOf t).toNat)
 case atStart => exact ⟨0, by omega, rfl, Keeps.refl _ _, by omega, by omega⟩
 case round =>
  obtain ⟨k, hk, rfl, he, hh⟩ := hrel; have r0 := (H0.out.ext he).reads; have r1 := (H1.out.ext he).reads; have r2 := (H2.out.ext he).reads; obtain ⟨c0, _⟩ := r0; obtain ⟨c1, _⟩ := r1; obtain ⟨c2, _⟩ := r2; have hb0 := (H0.out.ext he).lt; have hb1 := (H1.out.ext he).lt; have hb2 := (H2.out.ext he).lt; have HE := Hd he; clear he; have hk3 : k = 0 ∨ k = 1 ∨ k = 2 ∨ k = 3 := by omega
  rcases hk3 with rfl | rfl | rfl | rfl
  · go_wp2_with fail
    refine (c28_any (A := B) _ w.heap.size (some ⟨b, 0, none⟩) false x _ (by simp [go_sem, c0, hb0]) ⟨_, rfl, HBa.out.ext (Keeps.alloc HE.out _)⟩ (fun W' he => none_ring (HRa.out.ext ((Keeps.alloc HE.out _).ext he)))).mono ?_; rintro e W1 ⟨rfl, hW1⟩; have HE1 := Hd ((Keeps.alloc HE.out _).ext hW1); clear hW1; go_wp2_with fail; go_roundw
    case rel => exact ⟨1, by omega, by go_num, HE1.out, by omega, by omega⟩
    case measure => simp [intOf]
  · go_wp2_with fail
    refine (c30_any (A := B) _ x _ ⟨_, rfl, HBa.out.ext (Keeps.alloc HE.out _)⟩).mono ?_; rintro e W1 ⟨rfl, hW1⟩; have bf := (Box.new wr 230 [.func (.func 158) #[] #[], .int .i64 2]).ext hW1; have hE1 := (Keeps.alloc HE.out _).ext hW1; cases hc : (!x.side && x.key != 0) with
    | false =>
      have HC := Hd hc; have HE1 := Hd hE1; clear hc hE1 hW1 bf; go_wp2_with fail; go_roundw
      case rel => exact ⟨2, by omega, by go_num, HE1.out, fun _ => HC.out, by omega⟩
      case measure => simp [intOf]
    | true =>
      obtain ⟨cf, _⟩ := bf.reads; have hbf := bf.lt; have hp : R.put x = (R, 0, 2) := by unfold AR.put; rw [if_pos hc]
      have HP := Hd hp; have HE1 := Hd hE1; clear hc hE1 hW1 bf hp; go_wp2_with fail; have hE0 : Keeps NoB W1 W1.drew := (Keeps.refl _ _).drew; refine rgE [(0, 0), (3, 1), (0, 2), (0, 3)] [] [] [] ?_; simp only [planL, nL]; refine pR rfl (fun W => by go_simp <;> with_reducible rfl) ?_; simp only [nP]; refine pX rfl (by go_simp <;> with_reducible rfl) ?_; simp only [nP]; refine pA _ rfl rfl ?_; simp only [nP, Act.eval]; refine pA _ rfl rfl ?_; simp only [nP, nE]; refine plan_nil ?_; simp only [tailL, List.filterMap_nil]; go_wp2_with fail; go_ret2
      have hE := (HEa.out.ext HE1.out).ext hE0; exact PutPost.mk HP.out ((HR.out.ext hE).mono fun k hk => .inl hk) (Ext.keeps hE)
  · go_wp2_with fail
    refine (c31_any (A := B) _ x _ ⟨_, rfl, HBa.out.ext (Keeps.alloc HE.out _)⟩ hx).mono ?_; rintro e W1 ⟨rfl, hW1⟩; have bf := (Box.new wr 230 [.func (.func 159) #[] #[], .int .i64 3]).ext hW1; have hE1 := (Keeps.alloc HE.out _).ext hW1; cases hc : decide (1024 < x.bytes.length) with
    | false =>
      have HC := Hd hc; have HE1 := Hd hE1; clear hc hE1 hW1 bf; go_wp2_with fail; go_roundw
      case rel => exact ⟨3, by omega, by go_num, HE1.out, fun _ => hh.out.1 (by omega), fun _ => HC.out⟩
      case measure => simp [intOf]
    | true =>
      obtain ⟨cf, _⟩ := bf.reads; have hbf := bf.lt; have hp : R.put x = (R, 0, 3) := by unfold AR.put; rw [if_neg (by rw [hh.out.1 (by omega)]; exact Bool.false_ne_true), if_pos (by simpa using hc)]
      have HP := Hd hp; have HE1 := Hd hE1; clear hc hE1 hW1 bf hp; go_wp2_with fail; have hE0 : Keeps NoB W1 W1.drew := (Keeps.refl _ _).drew; refine rgE [(0, 0), (3, 1), (0, 2), (0, 3)] [] [] [] ?_; simp only [planL, nL]; refine pR rfl (fun W => by go_simp <;> with_reducible rfl) ?_; simp only [nP]; refine pX rfl (by go_simp <;> with_reducible rfl) ?_; simp only [nP]; refine pA _ rfl rfl ?_; simp only [nP, Act.eval]; refine pA _ rfl rfl ?_; simp only [nP, nE]; refine plan_nil ?_; simp only [tailL, List.filterMap_nil]; go_wp2_with fail; go_ret2
      have hE := (HEa.out.ext HE1.out).ext hE0; exact PutPost.mk HP.out ((HR.out.ext hE).mono fun k hk => .inl hk) (Ext.keeps hE)
  · have q1 := hh.out.1 (by omega)
    have q2 := hh.out.2 (by omega)
    have hput : R.put x = match R.items.findIdx? (p33 x) with
     | some i => ({ R with items := R.items.set i x, lost := R.lost + 1 }, 1, 0)
     | none =>
       if R.items.length < R.most then ({ R with items := R.items ++ [x] }, 0, 0)
       else match R.items.findIdx? p34 with
        | some i => ({ R with items := R.items.eraseIdx i ++ [x], lost := R.lost + 1 }, 1, 0)
        | none => if x.side then ({ R with lost := R.lost + 1 }, 1, 0) else (R, 0, 350) := by
     unfold AR.put; rw [if_neg (by rw [q1]; exact Bool.false_ne_true), if_neg (by simpa using q2)]
    have HP := Hd hput; clear q1 q2 hput hh; have s1 := c1 0; have s2 := c1 1; simp only [List.getElem?_cons_zero, List.getElem?_cons_succ] at s1 s2; have HS1 := Hd s1; have HS2 := Hd s2; clear s1 s2; go_wp2_with fail; refine (find33 (HRa.out.ext HE.out) (w.heap.size + 1) x HS1.out HS2.out).mono ?_; rintro e W1 ⟨rfl, hW1⟩; have c0' := ((H0.out.ext HE.out).ext hW1).reads.1; have hb0' := ((H0.out.ext HE.out).ext hW1).lt; have HE1 := Hd (HE.out.ext hW1); clear hW1; go_wp2_with fail; refine (find34 (HRa.out.ext HE1.out)).mono ?_; rintro e W2 ⟨rfl, hW2⟩; have hE2 := HE1.out.ext hW2; have b0 := H0.out.ext hE2; have b1 := H1.out.ext hE2; obtain ⟨d0, _⟩ := b0.reads; obtain ⟨d1, _⟩ := b1.reads; have hb0 := b0.lt; have hb1 := b1.lt; have hr2 := HRa.out.ext hE2; have hl := hr2.hl; have hm := hr2.hm; have hf := hr2.hf; have hbl2 := hr2.lt; have HR2 := Hd hr2; have HE2 := Hd (HEa.out.ext hE2); have HB2 := Hd (HBa.out.ext hE2); have B0 := Hd b0; have B1 := Hd b1; clear hW2 hE2 b0 b1 c0 c1 c2 c0' hb0' hb2 hr2; cases h1 : R.items.findIdx? (p33 x) with
    | some i =>
      have hi : i < R.items.length := by
       rw [List.findIdx?_eq_some_iff_getElem] at h1; exact h1.1
      have hfi : findI (p33 x) R.items = (i : Int) := by unfold findI; rw [h1]
      have HP' : Hid (R.put x = ({ R with items := R.items.set i x, lost := R.lost + 1 }, 1, 0)) := by have := HP.out; rw [h1] at this; exact this
      rw [hfi]; clear h1 hfi; have hge : decide ((0 : Int) ≤ (i : Int)) = true := by simp
      obtain ⟨q, hq⟩ : ∃ q, (f + i) % R.most = q := ⟨_, rfl⟩; have hq64 : q < 64 := by have := Nat.mod_lt (f + i) (show 0 < R.most by omega); omega
      have HQ := Hd hq; clear hq; go_wp2_with fail; have hE0 : Keeps NoB W2 W2.drew := (Keeps.refl _ _).drew; refine rgE [(3, 0), (0, 1), (1, 3), (2, 2)] [3] [2, 4, 5, 6] [4, 5, 6] ?_; simp only [planL, nL]; refine pX rfl (by go_simp <;> with_reducible rfl) ?_; simp only [nP]; refine pM _ rfl rfl ?_; simp only [nP, nE]; refine pL rfl (fun W => by go_simp <;> with_reducible rfl) ?_; simp only [nP]; refine plan_does rfl (fun K hK => ?_); go_wp2_with fail; refine (at_ring (HR2.out.ext hE0) i (by omega) _ rfl q HQ.out).mono ?_; rintro e W3 ⟨rfl, hW⟩; have hE1 := hE0.trans hW; clear hW; refine hK _ _ ⟨ClsE.of (by assumption), ?_⟩; clear hK K; try simp only [nP]
      refine plan_nil ?_; simp only [tailL, List.filterMap_cons, List.filterMap_nil, nL]; change wpList _ _ _ (_ :: _ :: _ :: []) _ _; have HE3 := Hd hE1; clear hE0 hE1; go_wp2_with fail; refine (told_any (A := B) _ x _ ⟨_, rfl, HB2.out.ext HE3.out⟩ hx).mono ?_; rintro e W4 ⟨v', rfl, hv', hW⟩; obtain ⟨bv', rfl, hb'⟩ := hv'; obtain ⟨a', c', rfl⟩ := hb'.len; have hr4 := (HR2.out.ext HE3.out).ext hW; obtain ⟨z0, hz0⟩ := hr4.has (4 + q * 3) (by omega); obtain ⟨z1, hz1⟩ := hr4.has (4 + q * 3 + 1) (by omega); obtain ⟨z2, hz2⟩ := hr4.has (4 + q * 3 + 2) (by omega); have hfz := hr4.fz; have k2 := hr4.c2; have d0' := ((B0.out.ext HE3.out).ext hW).reads.1; have hb0' := ((B0.out.ext HE3.out).ext hW).lt; have hne0 : ¬ (b = w.heap.size) := by omega
      have hne0' : ¬ (w.heap.size = b) := by omega
      have hs3 := hW.size; have hs2 := HE3.out.size; have hsE := HE2.out.size; have hb4 := hr4.lt; have HR4 := Hd hr4; have HB4 := Hd hb'; have HE4 := Hd ((HE2.out.ext HE3.out).ext hW); clear hr4 hb' hW d0 d1; go_wp2_with fail; go_ret2
      have hstore := RingAt.store3 (B := fun k => W3.heap.size ≤ k ∧ k < W4.heap.size) (R' := { R with items := R.items.set i x }) HR4.out hA hq64 HB4.out (by omega) rfl rfl (by simp) (by
       intro j hj; simp only [List.length_set] at hj; by_cases hjk : (f + j) % R.most = q
       · rw [if_pos hjk]
         obtain rfl : j = i := mod_inj (f := f) (m := R.most) (by omega) (by omega) (hjk.trans HQ.out.symm); simp
       · rw [if_neg hjk]
         have hne : i ≠ j := by rintro rfl; exact hjk HQ.out
         simp [hne])
      have hlast := (hstore.one (by simp; exact ⟨hA, by omega⟩) 0 (R.lost + 1) (by omega)).2; refine PutPost.mk HP'.out ?_ ?_
      · have hm1 := hlast.mono (A' := fun k => A k ∨ (w.heap.size ≤ k ∧ k < W4.heap.size)) (or_mono (by omega) (by omega))
        simpa using hm1
      · have := Ext.keeps (S := OneB b) HE4.out
        repeat (first | exact this | refine Keeps.setOne ?_ _ _)
    | none =>
      have hfi : findI (p33 x) R.items = -1 := by unfold findI; rw [h1]
      rw [hfi]; have hge : decide ((0 : Int) ≤ (-1 : Int)) = false := by simp
      have HP' : Hid (R.put x = (if R.items.length < R.most then ({ R with items := R.items ++ [x] }, 0, 0)
       else match R.items.findIdx? p34 with
        | some i => ({ R with items := R.items.eraseIdx i ++ [x], lost := R.lost + 1 }, 1, 0)
        | none => if x.side then ({ R with lost := R.lost + 1 }, 1, 0) else (R, 0, 350))) := by have := HP.out; rw [h1] at this; exact this
      have k1 := HR2.out.c1; have k3 := HR2.out.c3; clear h1 hfi; by_cases hlm : R.items.length < R.most
      · have hlm' : decide ((R.items.length : Int) < (R.most : Int)) = true := by simp; omega
        have HP2 : Hid (R.put x = ({ R with items := R.items ++ [x] }, 0, 0)) := by have := HP'.out; rw [if_pos hlm] at this; exact this
        go_wp2_with fail; have hE0 : Keeps NoB W2 W2.drew := (Keeps.refl _ _).drew; refine rgE qRingC0 [] [] [] ?_; simp only [qRingC0, planL, nL]; iterate 11 (first | (refine pA _ rfl rfl ?_; simp only [nP, nE]) | (refine pR (by rfl) (fun W => by go_simp <;> with_reducible rfl) ?_; simp only [nP]) | (refine pX (by rfl) (by go_simp <;> with_reducible rfl) ?_; simp only [nP]))
        refine plan_nil ?_; simp only [tailL, List.filterMap_nil]; have HE0 := Hd hE0; clear hE0; go_wp2_with fail; refine (push_ring (A := A) (B := B) _ b f R x _ (HR2.out.ext HE0.out) hA ⟨_, rfl, HB2.out.ext HE0.out⟩ hx hlm).mono ?_; rintro e W3 ⟨rfl, hr3, hk3⟩; have HR3 := Hd hr3; have HK3 := Hd hk3; clear hr3 hk3; go_wp2_with fail; go_ret2
        have hsz := (HE2.out.ext HE0.out).size; exact PutPost.mk HP2.out (HR3.out.mono (or_mono hsz (Nat.le_refl _))) ((Ext.keeps (HE2.out.ext HE0.out)).trans HK3.out)
      · have hlm' : decide ((R.items.length : Int) < (R.most : Int)) = false := by simp; omega
        have HP2 : Hid (R.put x = (match R.items.findIdx? p34 with
         | some i => ({ R with items := R.items.eraseIdx i ++ [x], lost := R.lost + 1 }, 1, 0)
         | none => if x.side then ({ R with lost := R.lost + 1 }, 1, 0) else (R, 0, 350))) := by have := HP'.out; rw [if_neg hlm] at this; exact this
        cases h2 : R.items.findIdx? p34 with
        | some i =>
          have hi : i < R.items.length := by
           rw [List.findIdx?_eq_some_iff_getElem] at h2; exact h2.1
          have hfi : findI p34 R.items = (i : Int) := by unfold findI; rw [h2]
          have HP3 : Hid (R.put x = ({ R with items := R.items.eraseIdx i ++ [x], lost := R.lost + 1 }, 1, 0)) := by have := HP2.out; rw [h2] at this; exact this
          rw [hfi]; have hge2 : decide ((0 : Int) ≤ (i : Int)) = true := by simp
          clear h2 hfi; go_wp2_with fail; have hE0 : Keeps NoB W2 W2.drew := (Keeps.refl _ _).drew; refine rgE qRingC0 [] [] [] ?_; simp only [qRingC0, planL, nL]; iterate 11 (first | (refine pA _ rfl rfl ?_; simp only [nP, nE]) | (refine pR (by rfl) (fun W => by go_simp <;> with_reducible rfl) ?_; simp only [nP]) | (refine pX (by rfl) (by go_simp <;> with_reducible rfl) ?_; simp only [nP]))
          refine plan_nil ?_; simp only [tailL, List.filterMap_nil]; have HE0 := Hd hE0; clear hE0; go_wp2_with fail; refine (cut_ring (A := A) _ b f R i (HR2.out.ext HE0.out) hA hi).mono ?_; rintro e W3 ⟨rfl, hr3, hk3⟩; have hneb : ¬ OneB b w.heap.size := by unfold OneB; omega
          have hneb1 : ¬ OneB b (w.heap.size + 1) := by unfold OneB; omega
          have d0' := ((B0.out.ext HE0.out).keeps hk3 hneb).reads.1; have d1' := ((B1.out.ext HE0.out).keeps hk3 hneb1).reads.1; have hb0' := ((B0.out.ext HE0.out).keeps hk3 hneb).lt; have hb1' := ((B1.out.ext HE0.out).keeps hk3 hneb1).lt; have HR3 := Hd hr3; have HK3 := Hd hk3; have C0 := Hd ((B0.out.ext HE0.out).keeps hk3 hneb); clear hr3 hk3 d0 d1 k1 k3; go_wp2_with fail; have hB' : ∀ k, B k → ¬ OneB b k := fun k h1 h2 => hBb (by unfold OneB at h2; rwa [← h2])
          have hel : (R.items.eraseIdx i).length < R.most := by rw [List.length_eraseIdx_of_lt hi]; omega
          refine (push_ring (A := A) (B := B) _ b f { R with items := R.items.eraseIdx i } x _ HR3.out hA ⟨_, rfl, (HB2.out.ext HE0.out).keeps HK3.out hB'⟩ hx hel).mono ?_; rintro e W4 ⟨rfl, hr4, hk4⟩; have d0'' := (C0.out.keeps hk4 hneb).reads.1; have hb0'' := (C0.out.keeps hk4 hneb).lt; have k2 := hr4.c2; have hfz4 := hr4.fz; have hb4 := hr4.lt; have hs4 := hk4.size; have hs3 := HK3.out.size; have hs2 := (HE2.out.ext HE0.out).size; have HR4 := Hd hr4; have HK4 := Hd (((Ext.keeps (HE2.out.ext HE0.out)).trans HK3.out).trans hk4); clear hr4 hk4 d0' d1'; dsimp only at k2; go_wp2_with fail; go_ret2
          have hlast := (HR4.out.one (by simp; exact ⟨hA, by omega⟩) 0 (R.lost + 1) (by omega)).2; refine PutPost.mk HP3.out ?_ ?_
          · have hm1 := hlast.mono (A' := fun k => A k ∨ (w.heap.size ≤ k ∧ k < W4.heap.size)) (or_mono (by omega) (by omega))
            simpa using hm1
          · have := HK4.out
            repeat (first | exact this | refine Keeps.setOne ?_ _ _)
        | none =>
          have hfi : findI p34 R.items = -1 := by unfold findI; rw [h2]
          have HP3 : Hid (R.put x = (if x.side then ({ R with lost := R.lost + 1 }, 1, 0) else (R, 0, 350))) := by have := HP2.out; rw [h2] at this; exact this
          rw [hfi]; clear h2 hfi; cases hsd : x.side with
          | true =>
            have HP4 : Hid (R.put x = ({ R with lost := R.lost + 1 }, 1, 0)) := by have := HP3.out; rw [if_pos hsd] at this; exact this
            rw [hsd] at d1; have HSD := Hd hsd; clear hsd; go_wp2_with fail; have hE0 : Keeps NoB W2 W2.drew := (Keeps.refl _ _).drew; refine rgE qRingC0 [] [] [] ?_; simp only [qRingC0, planL, nL]; iterate 11 (first | (refine pA _ rfl rfl ?_; simp only [nP, nE]) | (refine pR (by rfl) (fun W => by go_simp <;> with_reducible rfl) ?_; simp only [nP]) | (refine pX (by rfl) (by go_simp <;> with_reducible rfl) ?_; simp only [nP]))
            refine plan_nil ?_; simp only [tailL, List.filterMap_nil]; have d0' := (B0.out.ext hE0).reads.1; have d1' := (B1.out.ext hE0).reads.1; rw [HSD.out] at d1'; have hb0' := (B0.out.ext hE0).lt; have hr3 := HR2.out.ext hE0; have k2 := hr3.c2; have hfz3 := hr3.fz; have HR3 := Hd hr3; have HE0 := Hd hE0; have hs2 := (HE2.out.ext hE0).size; clear hr3 hE0; go_wp2_with fail; go_ret2
            have hlast := (HR3.out.one hA 0 (R.lost + 1) (by omega)).2; refine PutPost.mk HP4.out ?_ ?_
            · have hm1 := hlast.mono (A' := fun k => A k ∨ (w.heap.size ≤ k ∧ k < W2.heap.size)) (fun k h => .inl h)
              simpa [World.setCell_drew] using hm1
            · exact ((Ext.keeps (S := OneB b) HE2.out).setOne _ _).drew
          | false =>
            have HP4 : Hid (R.put x = (R, 0, 350)) := by have := HP3.out; rw [if_neg (by rw [hsd]; exact Bool.false_ne_true)] at this; exact this
            rw [hsd] at d1; have HSD := Hd hsd; clear hsd; go_wp2_with fail; have hE0 : Keeps NoB W2 W2.drew := (Keeps.refl _ _).drew; refine rgE qRingC0 [] [] [] ?_; simp only [qRingC0, planL, nL]; iterate 11 (first | (refine pA _ rfl rfl ?_; simp only [nP, nE]) | (refine pR (by rfl) (fun W => by go_simp <;> with_reducible rfl) ?_; simp only [nP]) | (refine pX (by rfl) (by go_simp <;> with_reducible rfl) ?_; simp only [nP]))
            refine plan_nil ?_; simp only [tailL, List.filterMap_nil]; have HE0 := Hd hE0; have d1' := (B1.out.ext hE0).reads.1; rw [HSD.out] at d1'; clear hE0; go_wp2_with fail; go_ret2
            exact PutPost.mk HP4.out ((HR2.out.ext HE0.out).mono fun k hk => .inl hk) (Ext.keeps (HE2.out.ext HE0.out))
theorem new_no (w : World) (m : Int) (h : m < 1 ∨ 64 < m) :
 Calls Tryz.prog 76 #[.int .i64 m] w fun e w' => e = .returned (.tuple #[.pointer none, .int .i64 2]) ∧ w = w' := by
 rcases h with h | h
 · go_enter Tryz.func76, Tryz.ntmps76
   go_wp2
   go_ret2
   exact ⟨rfl, rfl⟩
 · have h' : ¬ m < 1 := by omega
   go_enter Tryz.func76, Tryz.ntmps76
   go_wp2
   go_ret2
   exact ⟨rfl, rfl⟩
def ringZero : Array Value := #[.int .i64 0, .int .i64 0, .int .i64 0, .int .i64 0] ++ ((List.replicate 64 [Value.bool false, .int .i64 0, .slice none 0 0]).flatten).toArray
theorem ringZero_size : ringZero.size = 196 := by kernel_rfl
theorem new_yes (w : World) (m : Nat) (h1 : 1 ≤ m) (h2 : m ≤ 64) :
 Calls Tryz.prog 76 #[.int .i64 (m : Int)] w fun e w' =>
  e = .returned (.tuple #[.pointer (some ⟨w.heap.size, 0, none⟩), .int .i64 0]) ∧ RingAt w' (fun _ => False) w.heap.size 0 ⟨m, 0, []⟩ ∧ Ext w w' := by
 have g1 : ¬ ((m : Int) < 1) := by omega
 have g2 : ¬ (64 < (m : Int)) := by omega
 have hz : ∀ w, (zeroValue 203).run Tryz.prog w = .ok (.agg ringZero) w := fun _ => by kernel_rfl
 have hsz := ringZero_size; go_enter Tryz.func76, Tryz.ntmps76
 go_wp2
 go_ret2
 have r0 : ringZero[0]? = some (.int .i64 0) := by kernel_rfl
 have r1 : ringZero[1]? = some (.int .i64 0) := by kernel_rfl
 have r2 : ringZero[2]? = some (.int .i64 0) := by kernel_rfl
 refine ⟨rfl, ⟨fun o => by simp [World.frozen?_alloc_new], fun o ho => ?_, ?_, ?_, ?_, ?_, by simp; omega, h2, by simp, fun i hi => by simp at hi⟩, (Keeps.refl _ _).alloc _⟩
 · simp only [World.cell?_alloc_new]
   exact ⟨_, Array.getElem?_eq_getElem (by simpa [hsz] using ho)⟩
 · simp only [World.cell?_alloc_new]
   rw [Array.getElem?_setIfInBounds_ne (by decide)]; exact r0
 · simp only [World.cell?_alloc_new]
   rw [Array.getElem?_setIfInBounds_ne (by decide)]; exact r1
 · simp only [World.cell?_alloc_new]
   rw [Array.getElem?_setIfInBounds_ne (by decide)]; exact r2
 · simp [World.cell?_alloc_new, hsz]
def Nonish (w : World) (p : Option Addr) : Prop := p = none ∨ ∃ b, p = some ⟨b, 0, none⟩ ∧ w.cell? ⟨b, 3, none⟩ = some (.int .i64 0)
theorem Nonish.keeps {w w' : World} {p : Option Addr} {S : Nat → Prop} (h : Nonish w p) (hk : Keeps S w w') (hs : ∀ b, p = some ⟨b, 0, none⟩ → ¬ S b) : Nonish w' p := by
 rcases h with h | ⟨b, rfl, h⟩
 · exact .inl h
 · exact .inr ⟨b, rfl, hk.cell (hs b rfl) h⟩
theorem Nonish.ext {w w' : World} {p : Option Addr} (h : Nonish w p) (hk : Ext w w') : Nonish w' p := h.keeps hk fun _ _ => noB _
end Go.Proofs.YtoadjbgpfihoiaaGreatDoor
