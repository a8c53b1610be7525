/- The ring's All: the closure that it hands back holds copies of the items; and what that closure hands on. Conditions: the ring is laid out as 'RingAt' says. -/
import Derived.Test.YtocjnieehogcbaaRingE
set_option linter.unusedVariables false
set_option maxHeartbeats 400000
namespace Go.Proofs.Ytocjnieehogcbaa
open Go.RowKit

theorem infoItem : (Try.prog.info? 31).map (fun i => (i.zero, i.size, i.bytes)) = some (some (.agg #[.bool false, .int .i64 0, .slice none 0 0]), 3, 40) := by kernel_rfl
def ItemEn (w : World) (A : Nat → Prop) (c : List Value) (x : It) : Prop := ∃ bv, c = [.bool x.side, .int .i64 x.key, bv] ∧ Bytes w A bv x.bytes
theorem ItemEn.at {w : World} {A A' : Nat → Prop} (hA : ∀ k, A k → A' k) (b o : Nat) (c : List Value) (x : It) (h : ItemEn w A c x) (hl : c.length = 3) (hc : ∀ i, i < 3 → w.cell? ⟨b, o + i, none⟩ = c[i]?) : ItemAt w A' b o x := by
  obtain ⟨bv, rfl, hb⟩ := h
  exact ⟨by simpa using hc 0 (by omega), by simpa using hc 1 (by omega), bv, by simpa using hc 2 (by omega), hb.mono hA⟩

/-- the list that All lays: its box, and what it holds -/
def SeqAt (w : World) (A : Nat → Prop) (bx : Nat) (l : List It) : Prop := ∃ sv, w.cell? ⟨bx, 0, none⟩ = some sv ∧ SlV A (ItemAt w A) 3 sv l
theorem SeqAt.keeps {w w' : World} {A S : Nat → Prop} {bx : Nat} {l : List It} (h : SeqAt w A bx l) (hk : Keeps S w w') (hb : ¬ S bx) (hA : ∀ k, A k → ¬ S k) : SeqAt w' A bx l :=
  let ⟨sv, h1, h2⟩ := h
  ⟨sv, hk.cell hb h1, h2.mono (fun _ h => h) fun b o x ha hi => hi.keeps hk (hA b ha) hA⟩
theorem SeqAt.ext {w w' : World} {A : Nat → Prop} {bx : Nat} {l : List It} (h : SeqAt w A bx l) (hk : Ext w w') : SeqAt w' A bx l := h.keeps hk (noB _) fun _ _ => noB _

theorem all_none (w : World) (p : Option Addr) (h : Nonish w p) :
    Calls Try.prog 19 #[.pointer p] w fun e w' =>
      e = .returned (.func (.func 41) #[] #[.pointer (some ⟨w.heap.size, 0, none⟩)]) ∧ SeqAt w' (fun k => w.heap.size ≤ k ∧ k < w'.heap.size) w.heap.size [] ∧ Ext w w' := by
  have HN := Lib.hid h
  clear h
  go_enter Try.func19, Try.ntmps19
  go_wp2_with fail
  refine (none_none _ p (HN.out.ext ((Keeps.refl _ _).alloc _))).mono ?_
  rintro e w' ⟨rfl, rfl⟩
  go_wp2
  go_ret
  exact ⟨rfl, ⟨.slice none 0 0, by simp [go_sem], .inl ⟨none, rfl, rfl⟩⟩, (Keeps.refl _ _).alloc _⟩

set_option maxHeartbeats 2000000 in
set_option maxRecDepth 100000 in
theorem all_ring {A : Nat → Prop} (w : World) (b f : Nat) (R : AR) (h : RingAt w A b f R) (hx : ∀ x ∈ R.items, x.bytes.length ≤ 1000000) :
    Calls Try.prog 19 #[.pointer (some ⟨b, 0, none⟩)] w fun e w' =>
      e = .returned (.func (.func 41) #[] #[.pointer (some ⟨w.heap.size, 0, none⟩)]) ∧ SeqAt w' (fun k => w.heap.size ≤ k ∧ k < w'.heap.size) w.heap.size R.items ∧ Ext w w' := by
  obtain ⟨i0, hi, hz0, hz1, hz2⟩ := info_parts infoItem
  have hl := h.hl
  have hm := h.hm
  have hf := h.hf
  have hbl := h.lt
  have g1 := h.c1
  have HR := Lib.hid h
  have HX := Lib.hid hx
  clear h hx
  go_enter Try.func19, Try.ntmps19
  go_wp2_with fail
  have ba0 := (Box.new w 46 [.slice none 0 0])
  have ea : Ext w (w.alloc (Obj.cells #[.slice none 0 0] 46)) := ((Keeps.refl NoB w).alloc _)
  have sa : (w.alloc (Obj.cells #[.slice none 0 0] 46)).heap.size = w.heap.size + 1 := by simp
  generalize (w.alloc (Obj.cells #[.slice none 0 0] 46)) = w0 at ba0 ea sa ⊢
  have Sa := Lib.hid sa
  clear sa
  have HR0 := Lib.hid (HR.out.ext ea)
  have g1 := HR0.out.c1
  have hbl0 := HR0.out.lt
  have HEa := Lib.hid ea
  have HB0 := Lib.hid ba0
  clear ea ba0
  refine (none_ring HR0.out).mono ?_
  rintro e w' ⟨rfl, rfl⟩
  go_wp2_with fail
  go_loopw [13] (fun t wr => ∃ k : Nat, k ≤ R.items.length ∧ t = .int .i64 k ∧ Hid (∃ sv cs, Ext w wr ∧ w0.heap.size ≤ wr.heap.size ∧ Box wr w.heap.size 46 [sv] ∧ wr.ownsRow (w.heap.size + 1) 31 3 sv k cs ∧
      RowOf 3 (ItemEn wr (fun b => w.heap.size + 1 ≤ b ∧ b < wr.heap.size ∧ some b ≠ sv.ownBlock)) cs (R.items.take k))) (fun t _ => R.items.length - (intOf t).toNat)
  case atStart => exact ⟨0, by omega, rfl, .slice none 0 0, [], HEa.out, Nat.le_refl _, HB0.out, World.ownsRow_nil _ _ _ _, by simpa using RowOf.nil⟩
  case round =>
    obtain ⟨k, hk, rfl, hh⟩ := hrel
    obtain ⟨sv, cs, he, hsz, hb, ho, hrow⟩ := hh.out
    by_cases hlt : k < R.items.length
    · obtain ⟨q, hq⟩ : ∃ q, (f + k) % R.most = q := ⟨_, rfl⟩
      have hq64 : q < 64 := by have := Nat.mod_lt (f + k) (show 0 < R.most by omega); omega
      have hr := HR.out.ext he
      obtain ⟨i1, i2, bv, i3, i4⟩ := hr.it k hlt
      rw [hq] at i1 i2 i3
      obtain ⟨a, c, rfl⟩ := i4.len
      have hxk : R.items[k].bytes.length ≤ 1000000 := HX.out _ (List.getElem_mem _)
      generalize hx : R.items[k] = x at *
      obtain ⟨c0, y0⟩ := hb.reads
      have hb0 := hb.lt
      have hblr := hr.lt
      have HRr := Lib.hid hr
      have HQ := Lib.hid hq
      have HI := Lib.hid i4
      have HE := Lib.hid he
      have HB := Lib.hid hb
      have HO := Lib.hid ho
      have HROW := Lib.hid hrow
      have HXK := Lib.hid hx
      clear hr hq i4 he hb ho hrow hx hh
      go_wp2_with fail
      have hE0 : Keeps NoB wr wr.drew := (Keeps.refl _ _).drew
      refine wp_region_plan [(1, 0), (0, 1), (0, 2), (2, 3), (0, 4), (1, 5), (2, 6), (2, 7)] [0, 5] [3, 6, 7, 8, 9] [8, 9] (ClsE wr) (by kernel_rfl) (by kernel_rfl) (by kernel_rfl) rfl rfl (ClsE.of hE0) (fun _ _ _ d _ h => by cases d <;> exact h) ?_; simp only [planL, List.getElem?_toArray, List.getElem?_cons_succ, List.getElem?_cons_zero]
      refine plan_load rfl (fun K hK => quiet_runE (v := ?_) (fun W => ?_) (hK _ ?_)); rotate_left; (go_simp <;> with_reducible rfl); clear hK K; simp only [Act.put, List.setIfInBounds_toArray, List.set_cons_zero, List.set_cons_succ]
      refine plan_pure rfl (fun K hK => quiet_move' _ rfl (hK _ ?_)); clear hK K; simp only [Act.put, Act.eval, Array.getD_eq_getD_getElem?, List.getElem?_toArray, List.getElem?_cons_zero, Option.getD_some, List.setIfInBounds_toArray, List.set_cons_zero, List.set_cons_succ]
      refine plan_pure rfl (fun K hK => quiet_move' _ rfl (hK _ ?_)); clear hK K; simp only [Act.put, Act.eval, Array.getD_eq_getD_getElem?, List.getElem?_toArray, List.getElem?_cons_zero, List.getElem?_cons_succ, Option.getD_some, List.setIfInBounds_toArray, List.set_cons_zero, List.set_cons_succ]
      refine plan_does rfl (fun K hK => ?_)
      go_wp2_with fail
      refine (at_ring (HRr.out.ext hE0) k (by omega) _ rfl q HQ.out).mono ?_
      rintro e W1 ⟨rfl, hW⟩
      have hE1 := hE0.trans hW
      clear hW
      refine hK _ _ ⟨ClsE.of (by assumption), ?_⟩; clear hK K; try simp only [Act.put, List.setIfInBounds_toArray, List.set_cons_zero, List.set_cons_succ]
      refine plan_pure rfl (fun K hK => quiet_run (v := ?_) (fun W _ => ?_) (hK _ ?_)); rotate_left; (go_simp <;> with_reducible rfl); clear hK K; simp only [Act.put, List.setIfInBounds_toArray, List.set_cons_zero, List.set_cons_succ]
      refine plan_load rfl (fun K hK => quiet_runE (v := ?_) (fun W => ?_) (hK _ ?_)); rotate_left; (go_simp <;> with_reducible rfl); clear hK K; simp only [Act.put, List.setIfInBounds_toArray, List.set_cons_zero, List.set_cons_succ]
      refine plan_does rfl (fun K hK => ?_)
      go_wp2_with fail
      refine (told_any (A := A) _ x _ ⟨_, rfl, HI.out.ext hE1⟩ hxk).mono ?_
      rintro e W2 ⟨v', rfl, hv', hW⟩
      have hE2 := hE1.trans hW
      have hs1 := hE1.size
      obtain ⟨bv', rfl, hb'⟩ := hv'
      obtain ⟨a', c', rfl⟩ := hb'.len
      have HB' := Lib.hid hb'
      clear hb' hW
      refine hK _ _ ⟨ClsE.of (by assumption), ?_⟩; clear hK K; try simp only [Act.put, List.setIfInBounds_toArray, List.set_cons_zero, List.set_cons_succ]
      refine plan_does rfl (fun K hK => ?_)
      go_wp2_with fail
      refine ⟨ClsE.of (Keeps.alloc (by assumption) _), ?_⟩; try simp only [Act.put, List.setIfInBounds_toArray, List.set_cons_zero, List.set_cons_succ]
      refine plan_nil ?_; simp only [tailL, List.filterMap_cons, List.filterMap_nil, List.getElem?_toArray, List.getElem?_cons_succ, List.getElem?_cons_zero]; change wpList _ _ _ (_ :: _ :: []) _ _
      -- the item is appended, and the box holds the slice
      have bs := Box.new W2 31 [.bool x.side, .int .i64 x.key, .slice a' x.bytes.length c']
      have ba := (HB.out.ext hE2).alloc (Obj.cells #[.bool x.side, .int .i64 x.key, .slice a' x.bytes.length c'] 31)
      have hE3 : Ext wr (W2.alloc (Obj.cells #[.bool x.side, .int .i64 x.key, .slice a' x.bytes.length c'] 31)) := hE2.alloc _
      have hE23 : Ext W2 (W2.alloc (Obj.cells #[.bool x.side, .int .i64 x.key, .slice a' x.bytes.length c'] 31)) := (Keeps.refl _ _).alloc _
      have ho3 := HO.out.kept (w' := W2.alloc (Obj.cells #[.bool x.side, .int .i64 x.key, .slice a' x.bytes.length c'] 31)) (row := none) ⟨hE3.os, hE3.tape, hE3.output, hE3.size, fun k hk _ => hE3.block k hk (noB _)⟩ (by
        cases hv : sv.ownBlock with
        | none => exact .inl rfl
        | some g => exact .inr (by simp))
      generalize W2.alloc (Obj.cells #[.bool x.side, .int .i64 x.key, .slice a' x.bytes.length c'] 31) = W3 at *
      have hs3 := hE3.size
      have hk64 : k + 1 ≤ 65 := by omega
      obtain ⟨v2, W4, hrun, ho4, hg4, hown4⟩ := run_append_src (P := Try.prog) W3 (w.heap.size + 1) 46 46 31 i0 _ 3 40 Try.underlying46 hi hz0 hz1 hz2 rfl (by decide) sv k cs ho3 _ 1 _ (Box.src bs 1 1) (by simp) (by intro u hu; simp at hu; rcases hu with rfl | rfl | rfl <;> rfl) (by simp [maxLen]; omega) (by omega) (by have := HE.out.size; omega)
      have hrow4 : RowOf 3 (ItemEn W4 (fun b => w.heap.size + 1 ≤ b ∧ b < W4.heap.size ∧ some b ≠ v2.ownBlock)) (cs ++ [.bool x.side, .int .i64 x.key, .slice a' x.bytes.length c']) (R.items.take (k + 1)) := by
        rw [List.take_succ_eq_append_getElem hlt, HXK.out]
        have hks : Keeps (fun b => some b = sv.ownBlock) W3 W4 := (Keeps.of_grownBy hg4).mono fun _ _ h => h.symm
        have hs4 := hg4.size
        refine RowOf.snoc (HROW.out.mono ?_) rfl ⟨_, rfl, ?_⟩
        · rintro c y ⟨bv, rfl, hbv⟩
          refine ⟨bv, rfl, ((hbv.ext hE3).keeps hks fun b hb h => hb.2.2 h).mono fun b hb => ⟨hb.1, by omega, fun h => ?_⟩⟩
          rcases hown4 with h4 | h4
          · exact hb.2.2 (h.trans h4)
          · rw [h4] at h
            injection h with h
            omega
        · have hlt2 : ∀ g, sv.ownBlock = some g → g < wr.heap.size := fun g hg => (HO.out.lt g hg).2
          have hb2 := HB'.out.ext hE23
          have hs2 := hE23.size
          have hszr := HE.out.size
          refine (hb2.keeps hks fun b hb h => ?_).mono fun b hb => ⟨by omega, by omega, fun h => ?_⟩
          · have := hlt2 b h.symm; omega
          · rcases hown4 with h4 | h4
            · have := hlt2 b (h4.symm.trans h.symm); omega
            · rw [h4] at h
              injection h with h
              omega
      have hE4 : Ext w W4 := (HE.out.ext hE3).grown hg4 fun g hg => .inr (by have := (ho3.lt g hg).1; omega)
      have hba4 : Box W4 w.heap.size 46 [sv] := by
        have : W4.heap[w.heap.size]? = W3.heap[w.heap.size]? := hg4.block _ ba.lt (fun h => by have := (ho3.lt _ h.symm).1; omega)
        exact this.trans ba
      obtain ⟨d0, z0⟩ := hba4.reads
      have hd0 := hba4.lt
      have HF : Hid (∃ sv cs, Ext w (W4.setCell ⟨w.heap.size, 0, none⟩ v2) ∧ w0.heap.size ≤ (W4.setCell ⟨w.heap.size, 0, none⟩ v2).heap.size ∧ Box (W4.setCell ⟨w.heap.size, 0, none⟩ v2) w.heap.size 46 [sv] ∧ (W4.setCell ⟨w.heap.size, 0, none⟩ v2).ownsRow (w.heap.size + 1) 31 3 sv (k + 1) cs ∧
          RowOf 3 (ItemEn (W4.setCell ⟨w.heap.size, 0, none⟩ v2) (fun b => w.heap.size + 1 ≤ b ∧ b < (W4.setCell ⟨w.heap.size, 0, none⟩ v2).heap.size ∧ some b ≠ sv.ownBlock)) cs (R.items.take (k + 1))) := by
        refine ⟨v2, _, hE4.setNew _ _ (Nat.le_refl _), by have := hg4.size; simp; omega, hba4.set 0 v2, ownsRow_setCell_below ho4 (by simp) _, hrow4.mono ?_⟩
        rintro c y ⟨bv, rfl, hbv⟩
        refine ⟨bv, rfl, (hbv.keeps ((Keeps.refl (OneB w.heap.size) W4).setOne 0 v2) fun b hb h => ?_).mono fun b hb => ⟨hb.1, by simpa using hb.2.1, hb.2.2⟩⟩
        unfold OneB at h; omega
      have hv2s : ∃ n c a, v2 = .slice a n c := by
        rcases ho4.2 with ⟨h, _⟩ | ⟨g, cap, cur, h, _⟩
        · exact ⟨_, _, _, h⟩
        · exact ⟨_, _, _, h⟩
      obtain ⟨n2, c2, a2, rfl⟩ := hv2s
      clear hrow4 ho4 hg4 hown4 hE4 hba4 hE3 hE23 ho3 bs ba hs3 hE2 hE1 hE0 c0 y0
      refine wpList_append_ran rfl _ _ hrun rfl rfl rfl ?_
      go_wp2_with fail
      go_roundw
      case rel => exact ⟨k + 1, by omega, by go_num, HF⟩
      case measure => simp [intOf]; omega
    · obtain rfl : k = R.items.length := by omega
      have HF : Hid (SeqAt wr (fun k => w.heap.size ≤ k ∧ k < wr.heap.size) w.heap.size R.items) := by
        rw [List.take_of_length_le (Nat.le_refl _)] at hrow
        obtain ⟨d0, _⟩ := hb.reads
        refine ⟨sv, by rw [d0]; rfl, (SlV.of_owns (At := ItemAt wr (fun k => w.heap.size ≤ k ∧ k < wr.heap.size)) ho rfl hrow ?_).mono (fun b hb => ⟨by omega, hb.2⟩) fun _ _ _ _ h => h⟩
        exact fun b o c x h1 h2 h3 => ItemEn.at (fun k hk => ⟨by omega, hk.2.1⟩) b o c x h1 h2 h3
      have HE := Lib.hid he
      clear he hb ho hrow hh
      go_wp2_with fail
      go_ret
      exact ⟨rfl, HF.out, HE.out⟩
end Go.Proofs.Ytocjnieehogcbaa
