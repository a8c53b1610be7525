/- Texts RingF, RingG, RingH, RX, RMain, Ref, RefB, RefC, RefD, one behind the other. Conditions: as each says. -/
import Derived.Test.YtoadjbgpfihoiaaGreatDoorRaR
set_option linter.unusedVariables false
set_option linter.unusedSimpArgs false
set_option maxHeartbeats 8000000
set_option maxRecDepth 100000
namespace Go.Proofs.YtoadjbgpfihoiaaGreatDoor
open Go.RowKit
section
theorem infoItem : (Tryz.prog.info? 152).map (fun i => (i.zero, i.size, i.bytes)) = some (some (.agg #[.bool false, .int .i64 0, .slice none 0 0]), 3, 40) := by kernel_rfl
def ItemEn (w : World) (A : Nat → Prop) (c : List Value) (x : It) : Prop := ∃ bv, c = [.bool x.side, .int .i64 x.key, bv] ∧ Bytes w A bv x.bytes
theorem ItemEn.at {w : World} {A A' : Nat → Prop} (hA : ∀ k, A k → A' k) (b o : Nat) (c : List Value) (x : It) (h : ItemEn w A c x) (hl : c.length = 3) (hc : ∀ i, i < 3 → w.cell? ⟨b, o + i, none⟩ = c[i]?) : ItemAt w A' b o x := by
 obtain ⟨bv, rfl, hb⟩ := h
 exact ⟨by simpa using hc 0 (by omega), by simpa using hc 1 (by omega), bv, by simpa using hc 2 (by omega), hb.mono hA⟩
def SeqAt (w : World) (A : Nat → Prop) (bx : Nat) (l : List It) : Prop := ∃ sv, w.cell? ⟨bx, 0, none⟩ = some sv ∧ SlV A (ItemAt w A) 3 sv l
theorem SeqAt.keeps {w w' : World} {A S : Nat → Prop} {bx : Nat} {l : List It} (h : SeqAt w A bx l) (hk : Keeps S w w') (hb : ¬ S bx) (hA : ∀ k, A k → ¬ S k) : SeqAt w' A bx l :=
 let ⟨sv, h1, h2⟩ := h
 ⟨sv, hk.cell hb h1, h2.mono (fun _ h => h) fun b o x ha hi => hi.keeps hk (hA b ha) hA⟩
theorem SeqAt.ext {w w' : World} {A : Nat → Prop} {bx : Nat} {l : List It} (h : SeqAt w A bx l) (hk : Ext w w') : SeqAt w' A bx l := h.keeps hk (noB _) fun _ _ => noB _
set_option maxHeartbeats 2000000 in
set_option maxRecDepth 100000 in
theorem all_ring {A : Nat → Prop} (w : World) (b f : Nat) (R : AR) (h : RingAt w A b f R) (hx : ∀ x ∈ R.items, x.bytes.length ≤ 1000000) :
 Calls Tryz.prog 167 #[.pointer (some ⟨b, 0, none⟩)] w fun e w' =>
  e = .returned (.func (.func 217) #[] #[.pointer (some ⟨w.heap.size, 0, none⟩)]) ∧ SeqAt w' (fun k => w.heap.size ≤ k ∧ k < w'.heap.size) w.heap.size R.items ∧ Ext w w' := by
 obtain ⟨i0, hi, hz0, hz1, hz2⟩ := info_parts infoItem
 have hl := h.hl
 have hm := h.hm
 have hf := h.hf
 have hbl := h.lt
 have g1 := h.c1
 have HR := Lib.hid h
 have HX := Lib.hid hx
 clear h hx
 go_enter Tryz.func167, Tryz.ntmps167
 go_wp2_with fail
 have ba0 := (Box.new w 69 [.slice none 0 0])
 have ea : Ext w (w.alloc (Obj.cells #[.slice none 0 0] 69)) := ((Keeps.refl NoB w).alloc _)
 have sa : (w.alloc (Obj.cells #[.slice none 0 0] 69)).heap.size = w.heap.size + 1 := by simp
 generalize (w.alloc (Obj.cells #[.slice none 0 0] 69)) = w0 at ba0 ea sa ⊢
 have Sa := Lib.hid sa
 clear sa
 have HR0 := Lib.hid (HR.out.ext ea)
 have g1 := HR0.out.c1
 have hbl0 := HR0.out.lt
 have HEa := Lib.hid ea
 have HB0 := Lib.hid ba0
 clear ea ba0
 refine (none_ring HR0.out).mono ?_
 rintro e w' ⟨rfl, rfl⟩
 go_wp2_with fail
 go_loopw [13] (fun t wr => ∃ k : Nat, k ≤ R.items.length ∧ t = .int .i64 k ∧ Hid (∃ sv cs, Ext w wr ∧ w0.heap.size ≤ wr.heap.size ∧ Box wr w.heap.size 69 [sv] ∧ wr.ownsRow (w.heap.size + 1) 152 3 sv k cs ∧
  RowOf 3 (ItemEn wr (fun b => w.heap.size + 1 ≤ b ∧ b < wr.heap.size ∧ some b ≠ sv.ownBlock)) cs (R.items.take k))) (fun t _ => R.items.length - (intOf t).toNat)
 case atStart => exact ⟨0, by omega, rfl, .slice none 0 0, [], HEa.out, Nat.le_refl _, HB0.out, World.ownsRow_nil _ _ _ _, by simpa using RowOf.nil⟩
 case round =>
  obtain ⟨k, hk, rfl, hh⟩ := hrel
  obtain ⟨sv, cs, he, hsz, hb, ho, hrow⟩ := hh.out
  by_cases hlt : k < R.items.length
  · obtain ⟨q, hq⟩ : ∃ q, (f + k) % R.most = q := ⟨_, rfl⟩
    have hq64 : q < 64 := by have := Nat.mod_lt (f + k) (show 0 < R.most by omega); omega
    have hr := HR.out.ext he
    obtain ⟨i1, i2, bv, i3, i4⟩ := hr.it k hlt
    rw [hq] at i1 i2 i3
    obtain ⟨a, c, rfl⟩ := i4.len
    have hxk : R.items[k].bytes.length ≤ 1000000 := HX.out _ (List.getElem_mem _)
    generalize hx : R.items[k] = x at *
    obtain ⟨c0, y0⟩ := hb.reads
    have hb0 := hb.lt
    have hblr := hr.lt
    have HRr := Lib.hid hr
    have HQ := Lib.hid hq
    have HI := Lib.hid i4
    have HE := Lib.hid he
    have HB := Lib.hid hb
    have HO := Lib.hid ho
    have HROW := Lib.hid hrow
    have HXK := Lib.hid hx
    clear hr hq i4 he hb ho hrow hx hh
    go_wp2_with fail
    have hE0 : Keeps NoB wr wr.drew := (Keeps.refl _ _).drew
    refine wp_region_plan [(1, 0), (0, 1), (0, 2), (2, 3), (0, 4), (1, 5), (2, 6), (2, 7)] [0, 5] [3, 6, 7, 8, 9] [8, 9] (ClsE wr) (by kernel_rfl) (by kernel_rfl) (by kernel_rfl) rfl rfl (ClsE.of hE0) (fun _ _ _ d _ h => by cases d <;> exact h) ?_; simp only [planL, nL]
    refine pL rfl (fun W => by go_simp <;> with_reducible rfl) ?_; simp only [nP]
    iterate 2 (refine pM _ rfl rfl ?_; simp only [nP, nE])
    refine plan_does rfl (fun K hK => ?_)
    go_wp2_with fail
    refine (at_ring (HRr.out.ext hE0) k (by omega) _ rfl q HQ.out).mono ?_
    rintro e W1 ⟨rfl, hW⟩
    have hE1 := hE0.trans hW
    clear hW
    refine hK _ _ ⟨ClsE.of (by assumption), ?_⟩; clear hK K; try simp only [nP]
    refine pR rfl (fun W => by go_simp <;> with_reducible rfl) ?_; simp only [nP]
    refine pL rfl (fun W => by go_simp <;> with_reducible rfl) ?_; simp only [nP]
    refine plan_does rfl (fun K hK => ?_)
    go_wp2_with fail
    refine (told_any (A := A) _ x _ ⟨_, rfl, HI.out.ext hE1⟩ hxk).mono ?_
    rintro e W2 ⟨v', rfl, hv', hW⟩
    have hE2 := hE1.trans hW
    have hs1 := hE1.size
    obtain ⟨bv', rfl, hb'⟩ := hv'
    obtain ⟨a', c', rfl⟩ := hb'.len
    have HB' := Lib.hid hb'
    clear hb' hW
    refine hK _ _ ⟨ClsE.of (by assumption), ?_⟩; clear hK K; try simp only [nP]
    refine plan_does rfl (fun K hK => ?_)
    go_wp2_with fail
    refine ⟨ClsE.of (by repeat (first | assumption | exact Keeps.refl _ _ | refine Keeps.alloc ?_ _ | refine Keeps.setOne ?_ _ _ | refine Keeps.setCell ?_ _ _ (.inl (by first | rfl | exact .inl rfl | exact .inr rfl | omega)) | refine Keeps.drew ?_)), ?_⟩; try simp only [nP]
    refine plan_nil ?_; simp only [tailL, List.filterMap_cons, List.filterMap_nil, nL]; change wpList _ _ _ (_ :: _ :: []) _ _
    -- the item is appended, and the box holds the slice
    have bs := Box.new W2 152 [.bool x.side, .int .i64 x.key, .slice a' x.bytes.length c']
    have ba := (HB.out.ext hE2).alloc (Obj.cells #[.bool x.side, .int .i64 x.key, .slice a' x.bytes.length c'] 152)
    have hE3 : Ext wr (W2.alloc (Obj.cells #[.bool x.side, .int .i64 x.key, .slice a' x.bytes.length c'] 152)) := hE2.alloc _
    have hE23 : Ext W2 (W2.alloc (Obj.cells #[.bool x.side, .int .i64 x.key, .slice a' x.bytes.length c'] 152)) := (Keeps.refl _ _).alloc _
    have ho3 := HO.out.kept (w' := W2.alloc (Obj.cells #[.bool x.side, .int .i64 x.key, .slice a' x.bytes.length c'] 152)) (row := none) ⟨hE3.os, hE3.tape, hE3.output, hE3.size, fun k hk _ => hE3.block k hk (noB _)⟩ (by
     cases hv : sv.ownBlock with
     | none => exact .inl rfl
     | some g => exact .inr (by simp))
    generalize W2.alloc (Obj.cells #[.bool x.side, .int .i64 x.key, .slice a' x.bytes.length c'] 152) = W3 at *
    have hs3 := hE3.size
    have hk64 : k + 1 ≤ 65 := by omega
    obtain ⟨v2, W4, hrun, ho4, hg4, hown4⟩ := run_append_src (P := Tryz.prog) W3 (w.heap.size + 1) 69 69 152 i0 _ 3 40 Tryz.underlying69 hi hz0 hz1 hz2 rfl (by decide) sv k cs ho3 _ 1 _ (Box.src bs 1 1) (by simp) (by intro u hu; simp at hu; rcases hu with rfl | rfl | rfl <;> rfl) (by simp [maxLen]; omega) (by omega) (by have := HE.out.size; omega)
    have hrow4 : RowOf 3 (ItemEn W4 (fun b => w.heap.size + 1 ≤ b ∧ b < W4.heap.size ∧ some b ≠ v2.ownBlock)) (cs ++ [.bool x.side, .int .i64 x.key, .slice a' x.bytes.length c']) (R.items.take (k + 1)) := by
     rw [List.take_succ_eq_append_getElem hlt, HXK.out]
     have hks : Keeps (fun b => some b = sv.ownBlock) W3 W4 := (Keeps.of_grownBy hg4).mono fun _ _ h => h.symm
     have hs4 := hg4.size
     refine RowOf.snoc (HROW.out.mono ?_) rfl ⟨_, rfl, ?_⟩
     · rintro c y ⟨bv, rfl, hbv⟩
       refine ⟨bv, rfl, ((hbv.ext hE3).keeps hks fun b hb h => hb.2.2 h).mono fun b hb => ⟨hb.1, by omega, fun h => ?_⟩⟩
       rcases hown4 with h4 | h4
       · exact hb.2.2 (h.trans h4)
       · rw [h4] at h
         injection h with h
         omega
     · have hlt2 : ∀ g, sv.ownBlock = some g → g < wr.heap.size := fun g hg => (HO.out.lt g hg).2
       have hb2 := HB'.out.ext hE23
       have hs2 := hE23.size
       have hszr := HE.out.size
       refine (hb2.keeps hks fun b hb h => ?_).mono fun b hb => ⟨by omega, by omega, fun h => ?_⟩
       · have := hlt2 b h.symm; omega
       · rcases hown4 with h4 | h4
         · have := hlt2 b (h4.symm.trans h.symm); omega
         · rw [h4] at h
           injection h with h
           omega
    have hE4 : Ext w W4 := (HE.out.ext hE3).grown hg4 fun g hg => .inr (by have := (ho3.lt g hg).1; omega)
    have hba4 : Box W4 w.heap.size 69 [sv] := by
     have : W4.heap[w.heap.size]? = W3.heap[w.heap.size]? := hg4.block _ ba.lt (fun h => by have := (ho3.lt _ h.symm).1; omega)
     exact this.trans ba
    obtain ⟨d0, z0⟩ := hba4.reads
    have hd0 := hba4.lt
    have HF : Hid (∃ sv cs, Ext w (W4.setCell ⟨w.heap.size, 0, none⟩ v2) ∧ w0.heap.size ≤ (W4.setCell ⟨w.heap.size, 0, none⟩ v2).heap.size ∧ Box (W4.setCell ⟨w.heap.size, 0, none⟩ v2) w.heap.size 69 [sv] ∧ (W4.setCell ⟨w.heap.size, 0, none⟩ v2).ownsRow (w.heap.size + 1) 152 3 sv (k + 1) cs ∧
     RowOf 3 (ItemEn (W4.setCell ⟨w.heap.size, 0, none⟩ v2) (fun b => w.heap.size + 1 ≤ b ∧ b < (W4.setCell ⟨w.heap.size, 0, none⟩ v2).heap.size ∧ some b ≠ sv.ownBlock)) cs (R.items.take (k + 1))) := by
     refine ⟨v2, _, hE4.setNew _ _ (Nat.le_refl _), by have := hg4.size; simp; omega, hba4.set 0 v2, ownsRow_setCell_below ho4 (by simp) _, hrow4.mono ?_⟩
     rintro c y ⟨bv, rfl, hbv⟩
     refine ⟨bv, rfl, (hbv.keeps ((Keeps.refl (OneB w.heap.size) W4).setOne 0 v2) fun b hb h => ?_).mono fun b hb => ⟨hb.1, by simpa using hb.2.1, hb.2.2⟩⟩
     unfold OneB at h; omega
    have hv2s : ∃ n c a, v2 = .slice a n c := by
     rcases ho4.2 with ⟨h, _⟩ | ⟨g, cap, cur, h, _⟩
     · exact ⟨_, _, _, h⟩
     · exact ⟨_, _, _, h⟩
    obtain ⟨n2, c2, a2, rfl⟩ := hv2s
    clear hrow4 ho4 hg4 hown4 hE4 hba4 hE3 hE23 ho3 bs ba hs3 hE2 hE1 hE0 c0 y0
    refine wpList_append_ran rfl _ _ hrun rfl rfl rfl ?_
    go_wp2_with fail
    go_roundw
    case rel => exact ⟨k + 1, by omega, by go_num, HF⟩
    case measure => simp [intOf]; omega
  · obtain rfl : k = R.items.length := by omega
    have HF : Hid (SeqAt wr (fun k => w.heap.size ≤ k ∧ k < wr.heap.size) w.heap.size R.items) := by
     rw [List.take_of_length_le (Nat.le_refl _)] at hrow
     obtain ⟨d0, _⟩ := hb.reads
     refine ⟨sv, by rw [d0]; rfl, (SlV.of_owns (At := ItemAt wr (fun k => w.heap.size ≤ k ∧ k < wr.heap.size)) ho rfl hrow ?_).mono (fun b hb => ⟨by omega, hb.2⟩) fun _ _ _ _ h => h⟩
     exact fun b o c x h1 h2 h3 => ItemEn.at (fun k hk => ⟨by omega, hk.2.1⟩) b o c x h1 h2 h3
    have HE := Lib.hid he
    clear he hb ho hrow hh
    go_wp2_with fail
    go_ret
    exact ⟨rfl, HF.out, HE.out⟩
end
section
attribute [local go_sem] Oper.semAt_some
def Fresh (n0 : Nat) (x : It) (v : Array Value) (W0 W : World) : Prop := ∃ bv, v = #[.agg #[.bool x.side, .int .i64 x.key, bv]] ∧ Bytes W (fun k => W0.heap.size ≤ k ∧ k < W.heap.size) bv x.bytes ∧ Wr W bv ∧ n0 + 2 ≤ W0.heap.size
set_option maxHeartbeats 1000000 in
theorem iter_ring {A S : Nat → Prop} (w0 : World) (bx : Nat) (l : List It) (h : SeqAt w0 A bx l) (hS : ¬ S bx) (hA : ∀ k, A k → ¬ S k) (hx : ∀ x ∈ l, x.bytes.length ≤ 1000000) (hl : l.length ≤ 1000) :
 IterOK Fence.wide 8 Tryz.prog 217 #[.pointer (some ⟨bx, 0, none⟩)] l (Fresh w0.heap.size) S w0 := by
 intro ll J Jx W hll hJk hJs hJ hJx hround h0
 have hk0 := hJk 0 W h0
 obtain ⟨sv, hc0, hsl⟩ := h
 have hc := hk0.cell hS hc0
 obtain ⟨a, c, rfl⟩ : ∃ a c, sv = .slice a l.length c := by
  rcases hsl with ⟨a, rfl, rfl⟩ | ⟨b, o, c, rfl, _⟩
  · exact ⟨_, _, rfl⟩
  · exact ⟨_, _, rfl⟩
 have hbx := World.block_lt_of_cell? _ _ hc
 have HSL := Lib.hid hsl
 have HX := Lib.hid hx
 have HR := Lib.hid hround
 have HJk := Lib.hid hJk
 have HJs := Lib.hid hJs
 have HJ := Lib.hid hJ
 have HK0 := Lib.hid hk0
 clear hx hround hJk hJs hJ hsl hk0 hc0
 refine callsIn_of_wp Tryz.func217 rfl trivial ?_ rfl
 simp only [Tryz.ntmps217, List.size_toArray, List.length_cons, List.length_nil, Nat.reduceAdd, Nat.reduceSub, Array.replicate_succ, Array.replicate_zero, List.push_toArray, List.append_toArray, List.nil_append, List.cons_append]
 refine wpIn_scope ?_
 gi_wp2
 refine wpIn_label ?_
 gi_wp2_with fail
 gi_loopw [7] (fun t wr => ∃ k : Nat, k ≤ l.length ∧ t = .int .i64 k ∧ Hid (J k wr)) (fun t _ => l.length - (intOf t).toNat)
 case atStart => exact ⟨0, by omega, rfl, h0⟩
 case round =>
  obtain ⟨k, hk, rfl, hj⟩ := hrel
  by_cases hlt : k < l.length
  · have hkr := HJk.out k wr hj.out
    have hsl := SlV.mono HSL.out (At' := ItemAt wr A) (fun _ h => h) fun b o x ha hi => hi.keeps hkr (hA b ha) hA
    rcases hsl with ⟨_, _, h0'⟩ | ⟨b, o, c', hsv, hlc, hAb, hat⟩
    · exact absurd hlt (by rw [h0']; simp)
    · injection hsv with hsv1 hsv2 hsv3
      subst hsv1 hsv3
      obtain ⟨i1, i2, bv, i3, i4⟩ := hat k hlt
      obtain ⟨a2, c2, rfl⟩ := i4.len
      have hxk := HX.out _ (List.getElem_mem hlt)
      have HYK := Lib.hid (HR.out k hlt)
      generalize l[k] = x at *
      have hlw := World.block_lt_of_cell? _ _ i1
      have HI := Lib.hid i4
      have HKR := Lib.hid hkr
      have hl' : l.length ≤ c := hlc
      clear i4 hkr hat hlc
      gi_wp2_with fail
      refine ⟨trivial, callsIn_wide.2 ((told_w (A := A) _ x _ ⟨_, rfl, HI.out.ext ((Keeps.refl _ _).alloc _)⟩ hxk).mono ?_)⟩
      rintro e W2 ⟨v', bv', rfl, rfl, hb', hW, hwr⟩
      have hE2 := ((Keeps.refl NoB wr).alloc (Obj.cells #[Value.bool x.side, Value.int .i64 x.key, Value.slice a2 x.bytes.length c2] 152)).ext hW
      obtain ⟨fn, tmps, assign, body, hy, hRd⟩ := HYK.out _ wr W2 hj.out hE2 ⟨bv', rfl, hb'.mono (fun k hk => by have := hk.1; simp at this; exact ⟨by omega, hk.2⟩), hwr, by have := HJs.out k wr hj.out; omega⟩
      have HRd := Lib.hid hRd
      clear hRd hb' hW hwr hE2
      gi_wp2_with fail
      refine HRd.out.mono ?_
      rintro e W3 (⟨rfl, hJ3⟩ | ⟨rfl, hJx3⟩)
      · have HJ3 := Lib.hid hJ3
        clear hJ3
        gi_wp2_with fail
        go_roundw
        case rel => exact ⟨k + 1, by omega, by go_num, HJ3.out⟩
        case measure => simp [intOf]; omega
      · have HJ3 := Lib.hid hJx3
        clear hJx3
        gi_wp2_with fail
        rw [Exit.noGoto_normal]
        refine bodyPost_end (results_none rfl _ _ _) rfl ?_
        exact ⟨⟨_, rfl⟩, .inr ⟨k, hlt, HJ3.out⟩⟩
  · have HF : Hid (J l.length wr) := by
     obtain rfl : k = l.length := by omega
     exact hj
    gi_wp2_with fail
    rw [Exit.noGoto_normal]
    refine bodyPost_end (results_none rfl _ _ _) rfl ?_
    exact ⟨⟨_, rfl⟩, .inl HF.out⟩
end
section
attribute [local go_sem] Oper.semAt_some
def sides (l : List It) : Nat := (l.filter fun x => x.side).length
def mains (l : List It) : Nat := (l.filter fun x => !x.side).length
theorem sides_le (l : List It) : sides l ≤ l.length := List.length_filter_le _ _
theorem mains_le (l : List It) : mains l ≤ l.length := List.length_filter_le _ _
theorem sides_succ (l : List It) (k : Nat) (h : k < l.length) : sides (l.take (k + 1)) = sides (l.take k) + if l[k].side then 1 else 0 := by
 unfold sides
 rw [List.take_succ_eq_append_getElem h, List.filter_append, List.length_append]
 cases hs : l[k].side <;> simp [hs]
theorem mains_succ (l : List It) (k : Nat) (h : k < l.length) : mains (l.take (k + 1)) = mains (l.take k) + if l[k].side then 0 else 1 := by
 unfold mains
 rw [List.take_succ_eq_append_getElem h, List.filter_append, List.length_append]
 cases hs : l[k].side <;> simp [hs]
def LenPost (w : World) (l : List It) (e : Ending) (w' : World) : Prop := e = .returned (.tuple #[.int .i64 (mains l : Nat), .int .i64 (sides l : Nat)]) ∧ Ext w w'
set_option maxHeartbeats 2000000 in
theorem len_seq (w : World) (p : Option Addr) (l : List It) (hl : l.length ≤ 1000) (hx : ∀ x ∈ l, x.bytes.length ≤ 1000000)
 (hall : ∀ W, Ext w W → Calls Tryz.prog 167 #[.pointer p] W fun e W' =>
  e = .returned (.func (.func 217) #[] #[.pointer (some ⟨W.heap.size, 0, none⟩)]) ∧ SeqAt W' (fun k => W.heap.size ≤ k ∧ k < W'.heap.size) W.heap.size l ∧ Ext W W') :
 Calls Tryz.prog 104 #[.pointer p] w (LenPost w l) := by
 refine (callsIn_wide (n := 9)).1 (callsIn_of_wp_marks Tryz.func104 rfl trivial ?_ rfl)
 simp only [Tryz.ntmps104, List.size_toArray, List.length_cons, List.length_nil, Nat.reduceAdd, Nat.reduceSub, Array.replicate_succ, Array.replicate_zero, List.push_toArray, List.append_toArray, List.nil_append, List.cons_append]
 have HA := Lib.hid hall
 have HX := Lib.hid hx
 clear hall hx
 gi_wp2_with fail
 have ba0 := ((Box.new w 3 [.int .i64 0]).alloc (Obj.cells #[.int .i64 0] 3))
 have ba1 := (Box.new (w.alloc (Obj.cells #[.int .i64 0] 3)) 3 [.int .i64 0])
 have ea : Ext w ((w.alloc (Obj.cells #[.int .i64 0] 3)).alloc (Obj.cells #[.int .i64 0] 3)) := (((Keeps.refl NoB w).alloc _).alloc _)
 have sa : ((w.alloc (Obj.cells #[.int .i64 0] 3)).alloc (Obj.cells #[.int .i64 0] 3)).heap.size = w.heap.size + 2 := by simp
 simp only [World.size_alloc] at ba1
 generalize ((w.alloc (Obj.cells #[.int .i64 0] 3)).alloc (Obj.cells #[.int .i64 0] 3)) = w0 at ba0 ba1 ea sa ⊢
 have Sa := Lib.hid sa
 clear sa
 have HEa := Lib.hid ea
 have BA := Lib.hid ba0
 have BB := Lib.hid ba1
 clear ea ba0 ba1
 refine ⟨trivial, callsIn_wide.2 ((HA.out w0 HEa.out).mono ?_)⟩
 rintro e w1 ⟨rfl, hs, hE1⟩
 have HS := Lib.hid hs
 have HE1 := Lib.hid hE1
 have B0 := Lib.hid (BA.out.ext hE1)
 have B1 := Lib.hid (BB.out.ext hE1)
 have hsz1 := hE1.size
 clear hs hE1
 gi_wp2_with fail
 have hsz := Sa.out
 refine wpIn_range rfl (by omega) (gf := 217) (lb := #[.pointer (some ⟨w0.heap.size, 0, none⟩)]) rfl trivial (enters_of Tryz.func217 (by kernel_rfl) rfl)
  (S := fun b => b = w.heap.size ∨ b = w.heap.size + 1) (iter_ring w1 w0.heap.size l HS.out (by omega) (fun k h1 h2 => by omega) HX.out hl) (by rintro x v W0 W ⟨bv, rfl, _⟩; rfl)
  (fun k W => Keeps (fun b => b = w.heap.size ∨ b = w.heap.size + 1) w1 W ∧ Box W w.heap.size 3 [.int .i64 (mains (l.take k) : Nat)] ∧ Box W (w.heap.size + 1) 3 [.int .i64 (sides (l.take k) : Nat)])
  (fun _ _ _ => False) (fun k W h => h.1)
  (fun k W W' h hk => ⟨h.1.then hk (fun i hi h => by unfold OneB at h; omega), h.2.1.keeps hk (by unfold OneB; omega), h.2.2.keeps hk (by unfold OneB; omega)⟩)
  (fun _ _ _ _ h _ => h) ⟨Keeps.refl _ _, by simpa [mains] using B0.out, by simpa [sides] using B1.out⟩ ?_ ?_ (fun _ _ _ _ h _ => h.elim)
 · rintro k hk v W0 W - hE0 ⟨hkW, hb0, hb1⟩ ⟨bv, rfl, hbv, hwr, hn⟩ hlt0 hlt
   obtain ⟨a, c, rfl⟩ := hbv.len
   have HKW := Lib.hid hkW
   have HB0 := Lib.hid hb0
   have HB1 := Lib.hid hb1
   clear hkW hb0 hb1 hbv hwr hE0
   gi_wp2_with fail
   refine ⟨(Keeps.refl _ _).alloc _, fun W2 hW2 => ?_⟩
   have bx := (Box.new W 152 [.bool l[k].side, .int .i64 l[k].key, .slice a l[k].bytes.length c]).keeps hW2 (by unfold OneB; omega)
   have b0 := (HB0.out.alloc (Obj.cells #[.bool l[k].side, .int .i64 l[k].key, .slice a l[k].bytes.length c] 152)).keeps hW2 (by unfold OneB; omega)
   have b1 := (HB1.out.alloc (Obj.cells #[.bool l[k].side, .int .i64 l[k].key, .slice a l[k].bytes.length c] 152)).keeps hW2 (by unfold OneB; omega)
   have hkW2 : Keeps (fun b => b = w.heap.size ∨ b = w.heap.size + 1) w1 W2 := (HKW.out.alloc _).then hW2 (fun i hi h => by unfold OneB at h; omega)
   obtain ⟨cx, zx⟩ := bx.reads
   obtain ⟨c0, z0⟩ := b0.reads
   obtain ⟨c1, z1⟩ := b1.reads
   have lx := bx.lt
   have l0 := b0.lt
   have l1 := b1.lt
   have hms := mains_succ l k hk
   have hss := sides_succ l k hk
   have hm1 := mains_le (l.take k)
   have hm2 := sides_le (l.take k)
   have hlk : (l.take k).length ≤ k := List.length_take_le _ _
   cases hsd : l[k].side with
   | true =>
     rw [hsd] at cx hms hss
     have HM := Lib.hid hms
     have HS2 := Lib.hid hss
     have HK2 := Lib.hid hkW2
     have C0 := Lib.hid b0
     have C1 := Lib.hid b1
     clear hms hss hkW2 b0 b1 bx hW2 hsd hsz
     gi_wp2_with fail
     refine ⟨(Keeps.refl _ _).setCell _ _ (.inl (.inl ⟨by show w.heap.size + 1 < _; have := Sa.out; omega, .inr rfl⟩)), HK2.out.setCell _ _ (.inl (.inr rfl)), ?_, ?_⟩
     · rw [HM.out]; exact C0.out.other _ _ (by show w.heap.size ≠ w.heap.size + 1; omega)
     · rw [HS2.out]; exact C1.out.set 0 _
   | false =>
     rw [hsd] at cx hms hss
     have HM := Lib.hid hms
     have HS2 := Lib.hid hss
     have HK2 := Lib.hid hkW2
     have C0 := Lib.hid b0
     have C1 := Lib.hid b1
     clear hms hss hkW2 b0 b1 bx hW2 hsd hsz
     gi_wp2_with fail
     refine ⟨(Keeps.refl _ _).setCell _ _ (.inl (.inl ⟨by show w.heap.size < _; have := Sa.out; omega, .inl rfl⟩)), HK2.out.setCell _ _ (.inl (.inl rfl)), ?_, ?_⟩
     · rw [HM.out]; exact C0.out.set 0 _
     · rw [HS2.out]; exact C1.out.other _ _ (by show w.heap.size + 1 ≠ w.heap.size; omega)
 · rintro W ⟨hkW, hb0, hb1⟩ hm
   rw [List.take_of_length_le (Nat.le_refl _)] at hb0 hb1
   obtain ⟨c0, z0⟩ := hb0.reads
   obtain ⟨c1, z1⟩ := hb1.reads
   have l0 := hb0.lt
   have l1 := hb1.lt
   have HK := Lib.hid hkW
   have HM := Lib.hid hm
   have C0 := Lib.hid hb0
   have C1 := Lib.hid hb1
   clear hkW hb0 hb1 hm hsz
   gi_wp2_with fail
   refine wpIn_wide.2 (wp_region_noPanic ?_)
   have hE0 : Keeps (OneB w.heap.size) W W.drew := (Keeps.refl _ _).drew
   refine wp_region_plan [(3, 0), (1, 1), (2, 2)] [1] [2, 3] [3] (ClsK (OneB w.heap.size) W) (by kernel_rfl) (by kernel_rfl) (by kernel_rfl) rfl rfl (ClsK.of hE0) (fun _ _ _ _ _ h => h) ?_; simp only [planL, nL]
   refine pX rfl (by go_simp <;> with_reducible rfl) ?_; simp only [nP]
   refine pK rfl (fun W => by go_simp <;> with_reducible rfl) ?_; simp only [nP]
   refine plan_does rfl (fun K hK => ?_)
   go_wp2_with fail
   refine ⟨ClsK.of (by repeat (first | assumption | exact Keeps.refl _ _ | refine Keeps.alloc ?_ _ | refine Keeps.setOne ?_ _ _ | refine Keeps.setCell ?_ _ _ (.inl (by first | rfl | exact .inl rfl | exact .inr rfl | omega)) | refine Keeps.drew ?_)), ?_⟩; try simp only [nP]
   refine plan_nil ?_; simp only [tailL, List.filterMap_cons, List.filterMap_nil, nL]; change wpList _ _ _ (_ :: []) _ _
   go_wp2_with fail
   refine NoPanic.ok ?_
   gi_wp2
   have hsz := Sa.out
   refine leaves_marks [w1.heap.size] _ (by simp) ?_ ?_
   · intro D hD
     obtain rfl : D = w1.heap.size := by simpa using hD
     refine (HM.out.keeps (S := fun b => b = w.heap.size ∨ b = w.heap.size + 1) ?_ (by omega))
     repeat (first | exact Keeps.refl _ _ | refine Keeps.drew ?_ | refine Keeps.setCell ?_ _ _ (.inl (.inl rfl)) | refine Keeps.setCell ?_ _ _ (.inl (.inr rfl)))
   · intro w' hk
     have q0 : Box w' w.heap.size 3 [.int .i64 (mains l : Nat)] := by
      refine Box.keeps (w := _) ?_ hk (by simp; omega)
      exact ((C0.out.set 0 (.int .i64 (mains l : Nat))).other _ _ (by show w.heap.size ≠ w.heap.size + 1; omega)).drew
     have q1 : Box w' (w.heap.size + 1) 3 [.int .i64 (sides l : Nat)] := by
      refine Box.keeps (w := _) ?_ hk (by simp; omega)
      exact ((C1.out.other _ _ (by show w.heap.size + 1 ≠ w.heap.size; omega)).set 0 (.int .i64 (sides l : Nat))).drew
     refine ⟨.tuple #[.int .i64 (mains l : Nat), .int .i64 (sides l : Nat)], ?_, rfl, ?_⟩
     · simp [results, Tryz.results104, go_sem, q0.reads.1, q1.reads.1]
     · have h1 : Keeps (fun b => b = w.heap.size ∨ b = w.heap.size + 1) w1 (((W.setCell ⟨w.heap.size, 0, none⟩ (.int .i64 (mains l : Nat))).setCell ⟨w.heap.size + 1, 0, none⟩ (.int .i64 (sides l : Nat))).drew) := by
        have := HK.out
        repeat (first | exact this | refine Keeps.drew ?_ | refine Keeps.setCell ?_ _ _ (.inl (.inl rfl)) | refine Keeps.setCell ?_ _ _ (.inl (.inr rfl)))
       have h2 := (HEa.out.ext HE1.out).then h1 (fun i hi h => by omega)
       exact h2.then hk (fun i hi h => by simp at h; omega)
theorem len_ring {A : Nat → Prop} (w : World) (b f : Nat) (R : AR) (h : RingAt w A b f R) (hx : ∀ x ∈ R.items, x.bytes.length ≤ 1000000) :
 Calls Tryz.prog 104 #[.pointer (some ⟨b, 0, none⟩)] w (LenPost w R.items) :=
 len_seq w _ R.items (by have := h.hl; have := h.hm; omega) hx fun W hW => all_ring W b f R (h.ext hW) hx
theorem clear_ring {A : Nat → Prop} (w : World) (b f m l : Nat) (its : List It) (h : RingAt w A b f ⟨m, l, its⟩) (hA : ¬ A b) (hAl : ∀ k, A k → k < w.heap.size) :
 Calls Tryz.prog 103 #[.pointer (some ⟨b, 0, none⟩)] w fun e w' =>
  e = .returned (.int .i64 (its.length : Nat)) ∧ (∃ f', RingAt w' A b f' ⟨m, l, []⟩) ∧ Keeps (OneB b) w w' := by
 have hm : m ≤ 64 := h.hm
 have hl : its.length ≤ m := h.hl
 have HR := Lib.hid h
 have HA := Lib.hid hAl
 clear h hAl
 go_enter Tryz.func103, Tryz.ntmps103
 go_wp2_with fail
 go_loopw [2] (fun t wr => ∃ k : Nat, k ≤ its.length ∧ t = .int .i64 k ∧ Hid (∃ f', RingAt wr A b f' ⟨m, l, its.drop k⟩ ∧ Keeps (OneB b) w wr)) (fun t _ => its.length - (intOf t).toNat)
 case atStart => exact ⟨0, by omega, rfl, f, by simpa using HR.out, Keeps.refl _ _⟩
 case round =>
  obtain ⟨k, hk, rfl, hh⟩ := hrel
  obtain ⟨f', hr, hkp⟩ := hh.out
  have HK := Lib.hid hkp
  by_cases hlt : k < its.length
  · rw [List.drop_eq_getElem_cons hlt] at hr
    have HR1 := Lib.hid hr
    clear hr hkp hh
    go_wp2_with fail
    refine (take_ring wr b f' m l _ _ HR1.out hA (fun k hk => Nat.lt_of_lt_of_le (HA.out k hk) HK.out.size)).mono ?_
    rintro e w1 ⟨v, rfl, ⟨bv, rfl, hbv⟩, hr1, hk1⟩
    obtain ⟨a, c, rfl⟩ := hbv.len
    have hb1 := hr1.lt
    have HR2 := Lib.hid hr1
    have HK1 := Lib.hid (HK.out.trans hk1)
    have HAw : Hid (∀ k, A k → k < w1.heap.size) := fun k hk => Nat.lt_of_lt_of_le (HA.out k hk) (Nat.le_trans HK.out.size hk1.size)
    clear hbv hr1 hk1
    go_wp2_with fail
    go_roundw
    case rel =>
     refine ⟨k + 1, by omega, by go_num, (f' + 1) % m, ?_, ?_⟩
     · exact HR2.out.ext ((Keeps.refl _ _).alloc _)
     · exact HK1.out.alloc _
    case measure => simp [intOf]; omega
  · rw [List.drop_eq_nil_of_le (by omega)] at hr
    have hkl : k = its.length := by omega
    have HKL := Lib.hid hkl
    have HR1 := Lib.hid hr
    clear hr hkp hh hkl
    go_wp2_with fail
    refine (take_empty wr b f' m l HR1.out).mono ?_
    rintro e w1 ⟨rfl, hE⟩
    have HE := Lib.hid hE
    clear hE
    go_wp2_with fail
    go_ret
    refine ⟨by rw [← HKL.out]; rfl, ⟨f', HR1.out.ext (HE.out.alloc _)⟩, HK.out.ext (HE.out.alloc _)⟩
end
section
def RingX (w : World) (N : Nat → Prop) (b : Nat) (R : AR) : Prop := ∃ f A, RingAt w A b f R ∧ ¬ A b ∧ ∀ k, A k → k < w.heap.size ∧ ¬ N k
theorem RingX.keeps {w w' : World} {N S : Nat → Prop} {b : Nat} {R : AR} (h : RingX w N b R) (hk : Keeps S w w') (hs : ∀ k, S k → N k) (hb : ¬ S b) : RingX w' N b R :=
 let ⟨f, A, h1, h2, h3⟩ := h
 ⟨f, A, h1.keeps hk hb fun k ha hS => (h3 k ha).2 (hs k hS), h2, fun k ha => ⟨Nat.lt_of_lt_of_le (h3 k ha).1 hk.size, (h3 k ha).2⟩⟩
theorem RingX.ext {w w' : World} {N : Nat → Prop} {b : Nat} {R : AR} (h : RingX w N b R) (hk : Ext w w') : RingX w' N b R := h.keeps hk (fun _ h => (noB _ h).elim) (noB _)
theorem RingX.lt {w : World} {N : Nat → Prop} {b : Nat} {R : AR} (h : RingX w N b R) : b < w.heap.size := let ⟨_, _, h1, _⟩ := h; h1.lt
end
section
def ms (l : List It) : List (List UInt8) := (l.filter fun x => !x.side).map (·.bytes)
theorem ms_length (l : List It) : (ms l).length = mains l := by simp [ms, mains]
theorem ms_append (a b : List It) : ms (a ++ b) = ms a ++ ms b := by simp [ms]
theorem ms_side (x : It) (l : List It) (h : x.side = true) : ms (x :: l) = ms l := by simp [ms, h]
theorem ms_split (l : List It) (i : Nat) (h : i < l.length) (hi : l[i].side = true) : ms l = ms (l.take i) ++ ms (l.drop (i + 1)) := by
 have h1 : l.take i ++ l[i] :: l.drop (i + 1) = l := by rw [List.getElem_cons_drop, List.take_append_drop]
 have h2 : ms l = ms (l.take i ++ l[i] :: l.drop (i + 1)) := congrArg ms h1.symm
 rw [h2, ms_append, ms_side _ _ hi]
theorem ms_set (l : List It) (i : Nat) (h : i < l.length) (x : It) (hx : x.side = true) (hi : l[i].side = true) : ms (l.set i x) = ms l := by
 rw [List.set_eq_take_append_cons_drop, if_pos h, ms_append, ms_side _ _ hx, ← ms_split l i h hi]
theorem ms_erase (l : List It) (i : Nat) (h : i < l.length) (hi : l[i].side = true) : ms (l.eraseIdx i) = ms l := by
 rw [List.eraseIdx_eq_take_drop_succ, ms_append, ← ms_split l i h hi]
theorem mains_all (l : List It) (h : l.findIdx? p34 = none) : mains l = l.length := by
 rw [List.findIdx?_eq_none_iff] at h
 unfold mains
 rw [List.filter_eq_self.2]
 intro x hx
 have := h x hx
 unfold p34 at this
 simp [this]
theorem mains_lt (l : List It) (i : Nat) (h : i < l.length) (hi : l[i].side = true) : mains l < l.length := by
 rw [← ms_length, ← ms_erase l i h hi, ms_length]
 have := mains_le (l.eraseIdx i)
 rw [List.length_eraseIdx, if_pos h] at this
 omega
theorem findIdx_at {p : It → Bool} {l : List It} {i : Nat} (h : l.findIdx? p = some i) : ∃ hi : i < l.length, p l[i] = true := by
 rw [List.findIdx?_eq_some_iff_getElem] at h
 obtain ⟨h1, h2, _⟩ := h
 exact ⟨h1, h2⟩
structure PutMain (R : AR) (x : It) (r : AR × Nat × Nat) : Prop where
 most : r.1.most = R.most
 lost : r.1.lost ≤ R.lost + 1
 sub : ∀ y ∈ r.1.items, y ∈ R.items ∨ y = x
 small : r.2.1 ≤ 1000 ∧ r.2.2 ≤ 1000
 other : ¬ (x.side = false ∧ x.key = 0) → ms r.1.items = ms R.items
 got : x.side = false → x.key = 0 → mains R.items < R.most → r.2.2 = 0 ∧ ms r.1.items = ms R.items ++ [x.bytes]
 full : x.side = false → x.key = 0 → ¬ mains R.items < R.most → r.2.2 = 350 ∧ ms r.1.items = ms R.items
theorem put_main (R : AR) (x : It) (hle : R.items.length ≤ R.most) (hx : x.bytes.length ≤ 1024) : PutMain R x (R.put x) := by
 unfold AR.put
 by_cases h1 : (!x.side && x.key != 0) = true
 · rw [if_pos h1]
   rw [Bool.and_eq_true] at h1
   have hs : x.side = false := by simpa using h1.1
   have hk : x.key ≠ 0 := by simpa using h1.2
   exact ⟨rfl, by dsimp only; omega, fun y hy => .inl hy, ⟨by dsimp only; omega, by dsimp only; omega⟩, fun _ => rfl, fun _ h _ => (hk h).elim, fun _ h _ => (hk h).elim⟩
 · rw [if_neg h1, if_neg (by omega)]
   cases h33 : R.items.findIdx? (p33 x) with
   | some i =>
     obtain ⟨hi, hp⟩ := findIdx_at h33
     unfold p33 at hp
     simp only [Bool.and_eq_true] at hp
     obtain ⟨⟨hxs, his⟩, _⟩ := hp
     refine ⟨rfl, Nat.le_refl _, fun y hy => ?_, ⟨by dsimp only; omega, by dsimp only; omega⟩, fun _ => ms_set _ _ hi _ hxs his, fun h => ?_, fun h => ?_⟩
     · rcases List.mem_or_eq_of_mem_set hy with h | h
       · exact .inl h
       · exact .inr h
     · rw [hxs] at h; cases h
     · rw [hxs] at h; cases h
   | none =>
     dsimp only
     by_cases hroom : R.items.length < R.most
     · rw [if_pos hroom]
       have hm := mains_le R.items
       refine ⟨rfl, by dsimp only; omega, fun y hy => ?_, ⟨by dsimp only; omega, by dsimp only; omega⟩, fun h => ?_, fun hs _ _ => ⟨rfl, ?_⟩, fun _ _ h => by omega⟩
       · rcases List.mem_append.1 hy with h | h
         · exact .inl h
         · exact .inr (List.mem_singleton.1 h)
       · rw [ms_append]
         have hxs : x.side = true := by
          cases hs : x.side with
          | true => rfl
          | false =>
            by_cases hk : x.key = 0
            · exact (h ⟨hs, hk⟩).elim
            · exact (h1 (by simp [hs, hk])).elim
         simp [ms, hxs]
       · rw [ms_append]
         simp [ms, hs]
     · rw [if_neg hroom]
       cases h34 : R.items.findIdx? p34 with
       | some i =>
         obtain ⟨hi, hp⟩ := findIdx_at h34
         unfold p34 at hp
         have hml := mains_lt R.items i hi hp
         refine ⟨rfl, Nat.le_refl _, fun y hy => ?_, ⟨by dsimp only; omega, by dsimp only; omega⟩, fun h => ?_, fun hs _ _ => ⟨rfl, ?_⟩, fun _ _ h => by omega⟩
         · rcases List.mem_append.1 hy with h | h
           · exact .inl (List.mem_of_mem_eraseIdx h)
           · exact .inr (List.mem_singleton.1 h)
         · rw [ms_append, ms_erase _ _ hi hp]
           have hxs : x.side = true := by
            cases hs : x.side with
            | true => rfl
            | false =>
              by_cases hk : x.key = 0
              · exact (h ⟨hs, hk⟩).elim
              · exact (h1 (by simp [hs, hk])).elim
           simp [ms, hxs]
         · rw [ms_append, ms_erase _ _ hi hp]
           simp [ms, hs]
       | none =>
         have hml := mains_all R.items h34
         dsimp only
         cases hs : x.side with
         | true =>
           rw [if_pos rfl]
           exact ⟨rfl, Nat.le_refl _, fun y hy => .inl hy, ⟨by dsimp only; omega, by dsimp only; omega⟩, fun _ => rfl, (fun h => by rw [hs] at h; cases h), fun h => by rw [hs] at h; cases h⟩
         | false =>
           rw [if_neg (by decide)]
           exact ⟨rfl, by dsimp only; omega, fun y hy => .inl hy, ⟨by dsimp only; omega, by dsimp only; omega⟩, fun _ => rfl, fun _ _ h => by omega, fun _ _ _ => ⟨rfl, rfl⟩⟩
end
section
def RefV (w : World) (A : Nat → Prop) (v : Value) (R : AR) : Prop := ∃ sv, v = .agg #[.int .i64 (R.most : Int), sv, .int .i64 (R.lost : Int)] ∧ SlV A (ItemAt w A) 3 sv R.items
section
variable {w w' : World} {S A A' : Nat → Prop} {v : Value} {R : AR} {l : List It}
theorem SlV.itKeeps (h : SlV A (ItemAt w A) 3 v l) (hk : Keeps S w w') (hA : ∀ k, A k → ¬ S k) : SlV A (ItemAt w' A) 3 v l :=
 SlV.mono h (fun _ h => h) fun b o x hb hi => hi.keeps hk (hA b hb) hA
theorem SlV.itExt (h : SlV A (ItemAt w A) 3 v l) (hk : Ext w w') : SlV A (ItemAt w' A) 3 v l := h.itKeeps hk fun _ _ => noB _
theorem SlV.itMono (h : SlV A (ItemAt w A) 3 v l) (hA : ∀ k, A k → A' k) : SlV A' (ItemAt w A') 3 v l :=
 SlV.mono h hA fun b o x hb hi => hi.mono hA
theorem SlV.itAt (h : SlV A (ItemAt w A) 3 v l) : ∃ a c, v = .slice a l.length c ∧ ∀ i (h : i < l.length), ∃ b o, a = some ⟨b, o, none⟩ ∧ l.length ≤ c ∧ A b ∧ ItemAt w A b (o + i * 3) l[i] := by
 rcases h with ⟨a, rfl, rfl⟩ | ⟨b, o, c, rfl, h1, h2, h3⟩
 · exact ⟨_, _, rfl, fun i hi => by simp at hi⟩
 · exact ⟨_, _, rfl, fun i hi => ⟨b, o, rfl, h1, h2, h3 i hi⟩⟩
theorem RefV.keeps (h : RefV w A v R) (hk : Keeps S w w') (hA : ∀ k, A k → ¬ S k) : RefV w' A v R :=
 let ⟨sv, h1, h2⟩ := h
 ⟨sv, h1, h2.itKeeps hk hA⟩
theorem RefV.ext (h : RefV w A v R) (hk : Ext w w') : RefV w' A v R := h.keeps hk fun _ _ => noB _
theorem RefV.mono (h : RefV w A v R) (hA : ∀ k, A k → A' k) : RefV w A' v R :=
 let ⟨sv, h1, h2⟩ := h
 ⟨sv, h1, h2.itMono hA⟩
end
theorem rnew_yes (w : World) (m : Nat) (h1 : 1 ≤ m) (h2 : m ≤ 64) :
 Calls Tryz.prog 80 #[.int .i64 (m : Int)] w fun e w' => e = .returned (.tuple #[.agg #[.int .i64 (m : Int), .slice none 0 0, .int .i64 0], .int .i64 0]) ∧ Ext w w' := by
 have g1 : ¬ ((m : Int) < 1) := by omega
 have g2 : ¬ (64 < (m : Int)) := by omega
 go_enter Tryz.func80, Tryz.ntmps80
 go_wp2
 refine bodyPost_ret (v := .tuple #[.agg #[.int .i64 (m : Int), .slice none 0 0, .int .i64 0], .int .i64 0]) (by simp [results, Tryz.results80, go_sem]) rfl ⟨rfl, ?_⟩
 repeat (first | exact Keeps.refl _ _ | refine Keeps.alloc ?_ _ | refine Keeps.setNew ?_ _ _ (by simp; done))
def pside (any : Bool) (key : Int) (y : It) : Bool := y.side && (any || y.key == key)
theorem rside_any {A : Nat → Prop} (w : World) (v : Value) (R : AR) (any : Bool) (key : Int) (h : RefV w A v R) (hl : R.items.length ≤ 1000) (hA : ∀ k, A k → k < w.heap.size) :
 Calls Tryz.prog 144 #[v, .bool any, .int .i64 key] w fun e w' => e = .returned (.int .i64 (findI (pside any key) R.items)) ∧ Ext w w' := by
 obtain ⟨sv, rfl, hs⟩ := h
 obtain ⟨a, c, rfl, hat⟩ := hs.itAt
 have HAT := Lib.hid hat
 have HA := Lib.hid hA
 clear hs hat hA
 go_enter Tryz.func144, Tryz.ntmps144
 go_wp2_with fail
 have bx0 := (Box.new w 71 [.int .i64 (R.most : Int), .slice a R.items.length c, .int .i64 (R.lost : Int)])
 have ex : Ext w (w.alloc (Obj.cells #[.int .i64 (R.most : Int), .slice a R.items.length c, .int .i64 (R.lost : Int)] 71)) := ((Keeps.refl NoB w).alloc _)
 have sx : (w.alloc (Obj.cells #[.int .i64 (R.most : Int), .slice a R.items.length c, .int .i64 (R.lost : Int)] 71)).heap.size = w.heap.size + 1 := by simp
 generalize (w.alloc (Obj.cells #[.int .i64 (R.most : Int), .slice a R.items.length c, .int .i64 (R.lost : Int)] 71)) = w0 at bx0 ex sx ⊢
 have Sx := Lib.hid sx
 clear sx
 obtain ⟨c0, z0⟩ := bx0.reads
 have l0 := bx0.lt
 have HE := Lib.hid ex
 clear ex bx0
 go_loop [7] (fun i => ∃ k : Nat, k ≤ R.items.length ∧ i = .int .i64 k ∧ Hid (∀ j (h : j < R.items.length), j < k → pside any key R.items[j] = false)) (fun i => R.items.length - (intOf i).toNat)
 case atStart => exact ⟨0, Nat.zero_le _, rfl, fun j _ h => by omega⟩
 case round =>
  obtain ⟨k, hk, rfl, hn⟩ := hrel
  by_cases hlt : k < R.items.length
  · obtain ⟨b, o, rfl, hc, hAb, i1, i2, bv, i3, i4⟩ := HAT.out k hlt
    have hbl := HA.out b hAb
    have j1 := Ext.cell HE.out i1
    have j2 := Ext.cell HE.out i2
    have hbl0 : b < w0.heap.size := Nat.lt_of_lt_of_le hbl HE.out.size
    clear i1 i2 i3 i4
    cases hp : pside any key R.items[k] with
    | true =>
      have HF := Lib.hid (findI_some hlt hp fun j h h' => hn.out j h h')
      unfold pside at hp
      generalize R.items[k] = y at hp j1 j2
      obtain ⟨ys, yk, yb⟩ := y
      dsimp only at hp j1 j2
      simp only [Bool.and_eq_true, Bool.or_eq_true, beq_iff_eq] at hp
      obtain ⟨rfl, hp⟩ := hp
      cases any with
      | true =>
        clear hp
        go_wp2_with fail
        go_ret
        exact ⟨by rw [HF.out]; rfl, HE.out⟩
      | false =>
        obtain rfl : yk = key := by simpa using hp
        clear hp
        go_wp2_with fail
        go_ret
        exact ⟨by rw [HF.out]; rfl, HE.out⟩
    | false =>
      have HF : Hid (∀ j (h : j < R.items.length), j < k + 1 → pside any key R.items[j] = false) := fun j h h' => by
       by_cases hjk : j = k
       · subst hjk; exact hp
       · exact hn.out j h (by omega)
      unfold pside at hp
      generalize R.items[k] = y at hp j1 j2
      obtain ⟨ys, yk, yb⟩ := y
      dsimp only at hp j1 j2
      cases ys with
      | false =>
        clear hp
        go_wp2_with fail
        go_round
        case rel => exact ⟨k + 1, by omega, by go_num, HF⟩
        case measure => simp [intOf]; omega
      | true =>
        rw [Bool.true_and, Bool.or_eq_false_iff] at hp
        obtain ⟨rfl, hp⟩ := hp
        go_wp2_with fail
        go_round
        case rel => exact ⟨k + 1, by omega, by go_num, HF⟩
        case measure => simp [intOf]; omega
  · have HF : Hid (findI (pside any key) R.items = -1) := findI_none fun j h => hn.out j h (by omega)
    clear hn
    go_wp2_with fail
    go_ret
    exact ⟨by rw [HF.out]; rfl, HE.out⟩
end
section

end
section
theorem ItemEn.keeps {S A : Nat → Prop} {w w' : World} {c : List Value} {x : It} (h : ItemEn w A c x) (hk : Keeps S w w') (hA : ∀ k, A k → ¬ S k) : ItemEn w' A c x :=
 let ⟨bv, h1, h2⟩ := h
 ⟨bv, h1, h2.keeps hk hA⟩
theorem ItemEn.mono {A A' : Nat → Prop} {w : World} {c : List Value} {x : It} (h : ItemEn w A c x) (hA : ∀ k, A k → A' k) : ItemEn w A' c x :=
 let ⟨bv, h1, h2⟩ := h
 ⟨bv, h1, h2.mono hA⟩
theorem ItemEn.one {A : Nat → Prop} {w : World} {c : List Value} {x : It} (h : ItemEn w A c x) : ∀ u ∈ c, u.oneCell' = true := by
 obtain ⟨bv, rfl, hb⟩ := h
 obtain ⟨a, n, rfl⟩ := hb.len
 intro u hu
 simp at hu
 rcases hu with rfl | rfl | rfl <;> rfl
theorem ItemAt.en {A : Nat → Prop} {w : World} {b o : Nat} {x : It} (h : ItemAt w A b o x) : ∃ c, ItemEn w A c x ∧ c.length = 3 ∧ ∀ j, j < 3 → w.cell? ⟨b, o + j, none⟩ = c[j]? := by
 obtain ⟨i1, i2, bv, i3, i4⟩ := h
 refine ⟨_, ⟨bv, rfl, i4⟩, rfl, fun j hj => ?_⟩
 match j, hj with
 | 0, _ => exact i1
 | 1, _ => exact i2
 | 2, _ => exact i3
theorem items_row {A : Nat → Prop} {w : World} {v : Value} {l : List It} (h : SlV A (ItemAt w A) 3 v l) : ∃ cs, RowOf 3 (ItemEn w A) cs l ∧ SrcCells w v l.length cs :=
 SlV.row h fun b o x _ hx => hx.en
theorem append_items {A : Nat → Prop} (w : World) (base : Nat) (v : Value) (cs : List Value) (l : List It) (ty : TypeId) (hw : Win w base 3 v l.length cs) (x : Value) (news : List Value) (l' : List It) (hsrc : SrcCells w x l'.length news) (hr' : RowOf 3 (ItemEn w A) news l')
 (hl : l.length + l'.length ≤ 1000000) (hb : base ≤ w.heap.size) :
 ∃ v' w', (Builtin.append_ #[69, 69] ty #[v, x]).run Tryz.prog w = .ok v' w' ∧ Win w' base 3 v' (l ++ l').length (cs ++ news) ∧ Keeps (Own v) w w' ∧ (v'.ownBlock = v.ownBlock ∨ v'.ownBlock = some w.heap.size) := by
 obtain ⟨i0, hi, hz0, hz1, hz2⟩ := info_parts infoItem
 obtain ⟨v', w', h1, h2, h3, h4⟩ := run_append_win (P := Tryz.prog) w base 69 69 ty 152 i0 _ 3 40 Tryz.underlying69 hi hz0 hz1 hz2 rfl v l.length cs hw
  x l'.length news (hsrc.toSrc Tryz.underlying69 hr'.length (hr'.all fun c x hc => hc.one)) (by simp [maxLen]; omega) (by omega) hb
 exact ⟨v', w', h1, by rw [List.length_append]; exact h2, h3, h4⟩
theorem items_of_win {w : World} {A A' : Nat → Prop} {base n : Nat} {v : Value} {cs : List Value} {l : List It} (h : Win w base 3 v n cs) (hn : n = l.length) (hr : RowOf 3 (ItemEn w A) cs l) (hA : ∀ k, A k → A' k) (hB : ∀ k, base ≤ k → k < w.heap.size → A' k) : SlV A' (ItemAt w A') 3 v l :=
 SlV.mono (SlV.of_win (At := ItemAt w A') h hn hr fun b o c x hc hl hcc => hc.at hA b o c x hl hcc) (fun k hk => hB k hk.1 hk.2) fun _ _ _ _ h => h
theorem rtake_none {A : Nat → Prop} (w : World) (v : Value) (m l : Nat) (h : RefV w A v ⟨m, l, []⟩) :
 Calls Tryz.prog 141 #[v] w fun e w' => e = .returned (.tuple #[v, .agg #[.bool false, .int .i64 0, .slice none 0 0], .bool false]) ∧ Ext w w' := by
 obtain ⟨sv, rfl, hs⟩ := h
 obtain ⟨a, c, rfl, -⟩ := hs.itAt
 simp only [List.length_nil]
 clear hs
 go_enter Tryz.func141, Tryz.ntmps141
 go_wp2_with fail
 refine bodyPost_ret (v := .tuple #[.agg #[.int .i64 (m : Int), .slice a 0 c, .int .i64 (l : Int)], .agg #[.bool false, .int .i64 0, .slice none 0 0], .bool false]) (by simp [results, Tryz.results141, go_sem]) rfl ⟨rfl, ?_⟩
 repeat (first | exact Keeps.refl _ _ | refine Keeps.alloc ?_ _ | refine Keeps.setNew ?_ _ _ (by simp; done))
theorem rtake_some {A : Nat → Prop} (w : World) (v : Value) (m l : Nat) (x : It) (r : List It) (h : RefV w A v ⟨m, l, x :: r⟩) (hl : r.length ≤ 1000) (hA : ∀ k, A k → k < w.heap.size) :
 Calls Tryz.prog 141 #[v] w fun e w' =>
  ∃ v' vx, e = .returned (.tuple #[v', vx, .bool true]) ∧ RefV w' (fun k => A k ∨ (w.heap.size ≤ k ∧ k < w'.heap.size)) v' ⟨m, l, r⟩ ∧ ItemV w' A vx x ∧ Ext w w' := by
 obtain ⟨sv, rfl, hs⟩ := h
 have HS := Lib.hid hs
 obtain ⟨a, c, rfl, hat⟩ := hs.itAt
 obtain ⟨b, o, rfl, hc, hAb, i1, i2, bv, i3, i4⟩ := hat 0 (by simp)
 simp only [List.length_cons] at hc
 dsimp only [List.getElem_cons_zero] at i1 i2 i3 i4
 have hbl := hA b hAb
 have HA := Lib.hid hA
 have HI := Lib.hid i4
 obtain ⟨a4, c4, rfl⟩ := i4.len
 have hz : (((r.length : Int) + 1) == 0) = false := by rw [beq_eq_false_iff_ne]; omega
 clear hs hat hA i4
 simp only [List.length_cons]
 go_enter Tryz.func141, Tryz.ntmps141
 go_wp2_with fail
 have by0 := (((Box.new w 71 [.int .i64 (m : Int), .slice (some ⟨b, o, none⟩) (r.length + 1) c, .int .i64 (l : Int)]).alloc (Obj.cells #[.int .i64 0, .slice none 0 0, .int .i64 0] 71)).alloc (Obj.cells #[.bool false, .int .i64 0, .slice none 0 0] 152))
 have by1 := ((Box.new (w.alloc (Obj.cells #[.int .i64 (m : Int), .slice (some ⟨b, o, none⟩) (r.length + 1) c, .int .i64 (l : Int)] 71)) 71 [.int .i64 0, .slice none 0 0, .int .i64 0]).alloc (Obj.cells #[.bool false, .int .i64 0, .slice none 0 0] 152))
 have by2 := (Box.new ((w.alloc (Obj.cells #[.int .i64 (m : Int), .slice (some ⟨b, o, none⟩) (r.length + 1) c, .int .i64 (l : Int)] 71)).alloc (Obj.cells #[.int .i64 0, .slice none 0 0, .int .i64 0] 71)) 152 [.bool false, .int .i64 0, .slice none 0 0])
 have ey : Ext w (((w.alloc (Obj.cells #[.int .i64 (m : Int), .slice (some ⟨b, o, none⟩) (r.length + 1) c, .int .i64 (l : Int)] 71)).alloc (Obj.cells #[.int .i64 0, .slice none 0 0, .int .i64 0] 71)).alloc (Obj.cells #[.bool false, .int .i64 0, .slice none 0 0] 152)) := ((((Keeps.refl NoB w).alloc _).alloc _).alloc _)
 have sy : (((w.alloc (Obj.cells #[.int .i64 (m : Int), .slice (some ⟨b, o, none⟩) (r.length + 1) c, .int .i64 (l : Int)] 71)).alloc (Obj.cells #[.int .i64 0, .slice none 0 0, .int .i64 0] 71)).alloc (Obj.cells #[.bool false, .int .i64 0, .slice none 0 0] 152)).heap.size = w.heap.size + 3 := by simp
 simp only [World.size_alloc] at by1 by2
 generalize (((w.alloc (Obj.cells #[.int .i64 (m : Int), .slice (some ⟨b, o, none⟩) (r.length + 1) c, .int .i64 (l : Int)] 71)).alloc (Obj.cells #[.int .i64 0, .slice none 0 0, .int .i64 0] 71)).alloc (Obj.cells #[.bool false, .int .i64 0, .slice none 0 0] 152)) = w0 at by0 by1 by2 ey sy ⊢
 have Sy := Lib.hid sy
 clear sy
 obtain ⟨c0, z0⟩ := by0.reads
 obtain ⟨c1, z1⟩ := by1.reads
 obtain ⟨c2, z2⟩ := by2.reads
 have l0 := by0.lt
 have l1 := by1.lt
 have l2 := by2.lt
 have j1 := Ext.cell ey i1
 have j2 := Ext.cell ey i2
 have j3 := Ext.cell ey i3
 have hb0 : b < w0.heap.size := by omega
 have HE := Lib.hid ey
 clear i1 i2 i3
 simp only [Nat.zero_mul, Nat.add_zero] at j1 j2 j3
 have hbn : ¬ (b = w.heap.size + 1) := by omega
 have h1n : (1 : Int) ≤ (r.length : Int) + 1 := by omega
 have hsl := HS.out.drop 1 (by simp)
 simp only [List.length_cons, Nat.add_sub_cancel, List.drop_succ_cons, List.drop_zero, Nat.one_mul] at hsl
 obtain ⟨sp, hsp⟩ : ∃ sp : Option Addr, (if c = 1 then some (⟨b, o, none⟩ : Addr) else some ⟨b, o + 3, none⟩) = sp := ⟨_, rfl⟩
 rw [hsp] at hsl
 have HT := Lib.hid hsl
 clear hsl
 have hE0 : Keeps (OneB (w.heap.size + 1)) w0 w0.drew := (Keeps.refl _ _).drew
 refine wp_region_plan [(0, 0), (1, 1), (0, 3), (1, 4), (0, 5), (0, 7), (1, 8), (0, 10), (1, 11), (0, 12), (1, 13), (2, 2), (2, 6), (0, 9), (2, 14)] [1, 4, 8, 11, 13] [2, 6, 14, 15, 16] [15, 16] (ClsK (OneB (w.heap.size + 1)) w0) (by kernel_rfl) (by kernel_rfl) (by kernel_rfl) rfl rfl (ClsK.of hE0) (fun _ _ _ d _ h => by cases d <;> exact h) ?_; simp only [planL, nL]
 iterate 11 (first | (refine pR (by rfl) (fun W => by go_simp <;> with_reducible rfl) ?_; simp only [nP]) | (refine pK (by rfl) (fun W => by go_simp <;> with_reducible rfl) ?_; simp only [nP]))
 refine plan_does rfl (fun K hK => ?_)
 go_wp2_with fail
 refine ⟨ClsK.of (by repeat (first | assumption | exact Keeps.refl _ _ | refine Keeps.alloc ?_ _ | refine Keeps.setOne ?_ _ _ | refine Keeps.setCell ?_ _ _ (.inl (by first | rfl | exact .inl rfl | exact .inr rfl | omega)) | refine Keeps.drew ?_)), ?_⟩; try simp only [nP]
 refine plan_does rfl (fun K hK => ?_)
 have hk0 : Ext w0 ((w0.alloc (Obj.cells #[] 152)).drew) := ((Keeps.refl _ _).alloc _).drew
 obtain ⟨cs, hrow, hsrc⟩ := items_row ((HT.out.itExt HE.out).itExt hk0)
 obtain ⟨v1, w1, hr1, hwin1, hk1, ho1⟩ := append_items (A := A) _ w0.heap.size _ [] [] 69 (Win.empty (Nat.le_refl _) (by simp)) _ cs r hsrc hrow (by simp; omega) (by simp)
 have hK1 : Keeps (OneB (w.heap.size + 1)) w0 w1 := (Ext.keeps hk0).then hk1 (fun i hi h2 => by have := own_eq h2; omega)
 obtain ⟨a1, d1, rfl⟩ := hwin1.len
 have hE1 : Ext w0 w1 := hk0.then hk1 (fun i hi h2 => by have := own_eq h2; omega)
 have HW1 := Lib.hid hwin1
 have HR1 := Lib.hid (hrow.mono fun c x h => h.keeps hk1 (fun k hk h2 => by have := HA.out k hk; have := own_eq h2; omega))
 obtain ⟨c11, z11⟩ := (by1.ext hE1).reads
 obtain ⟨c12, z12⟩ := (by2.ext hE1).reads
 have l11 := (by1.ext hE1).lt
 have l12 := (by2.ext hE1).lt
 refine oper_append_ran _ _ hr1 rfl rfl rfl ?_
 clear hrow hsrc hr1 hk1 ho1 hk0 hwin1
 refine hK _ _ ⟨ClsK.of (by assumption), ?_⟩; clear hK K; try simp only [nP]
 refine pR rfl (fun W => by go_simp <;> with_reducible rfl) ?_; simp only [nP]
 refine plan_does rfl (fun K hK => ?_)
 go_wp2_with fail
 refine ⟨ClsK.of (by repeat (first | assumption | exact Keeps.refl _ _ | refine Keeps.alloc ?_ _ | refine Keeps.setOne ?_ _ _ | refine Keeps.setCell ?_ _ _ (.inl (by first | rfl | exact .inl rfl | exact .inr rfl | omega)) | refine Keeps.drew ?_)), ?_⟩; try simp only [nP]
 refine plan_nil ?_; simp only [tailL, List.filterMap_cons, List.filterMap_nil, nL]; change wpList _ _ _ (_ :: _ :: []) _ _
 go_wp2_with fail
 have b1 := (((((((by1.ext hE1).set 0 (.int .i64 (m : Int))).set 1 (.slice a1 r.length d1)).set 2 (.int .i64 (l : Int))).other ⟨w.heap.size + 1 + 1, 0, none⟩ (.bool x.side) (by simp)).other ⟨w.heap.size + 1 + 1, 1, none⟩ (.int .i64 x.key) (by simp)).other ⟨w.heap.size + 1 + 1, 2, none⟩ (.slice a4 x.bytes.length c4) (by simp))
 have b2 := (((((((by2.ext hE1).other ⟨w.heap.size + 1, 0, none⟩ (.int .i64 (m : Int)) (by simp)).other ⟨w.heap.size + 1, 1, none⟩ (.slice a1 r.length d1) (by simp)).other ⟨w.heap.size + 1, 2, none⟩ (.int .i64 (l : Int)) (by simp)).set 0 (.bool x.side)).set 1 (.int .i64 x.key)).set 2 (.slice a4 x.bytes.length c4))
 dsimp only [List.set_cons_zero, List.set_cons_succ] at b1 b2
 have r1 := b1.reads.1
 have r2 := b2.reads.1
 have hS : Keeps (fun k => k = w.heap.size + 1 ∨ k = w.heap.size + 1 + 1) w1 ((((((w1.setCell ⟨w.heap.size + 1, 0, none⟩ (.int .i64 (m : Int))).setCell ⟨w.heap.size + 1, 1, none⟩ (.slice a1 r.length d1)).setCell ⟨w.heap.size + 1, 2, none⟩ (.int .i64 (l : Int))).setCell ⟨w.heap.size + 1 + 1, 0, none⟩ (.bool x.side)).setCell ⟨w.heap.size + 1 + 1, 1, none⟩ (.int .i64 x.key)).setCell ⟨w.heap.size + 1 + 1, 2, none⟩ (.slice a4 x.bytes.length c4)) :=
  ((((((Keeps.refl _ w1).setCell _ _ (.inl (.inl rfl))).setCell _ _ (.inl (.inl rfl))).setCell _ _ (.inl (.inl rfl))).setCell _ _ (.inl (.inr rfl))).setCell _ _ (.inl (.inr rfl))).setCell _ _ (.inl (.inr rfl))
 clear c0 c1 c2 c11 c12 z0 z1 z2 z11 z12 j1 j2 j3
 refine bodyPost_ret (v := .tuple #[.agg #[.int .i64 (m : Int), .slice a1 r.length d1, .int .i64 (l : Int)], .agg #[.bool x.side, .int .i64 x.key, .slice a4 x.bytes.length c4], .bool true]) (by simp [results, Tryz.results141, go_sem, r1, r2]) rfl ⟨_, _, rfl, ?_, ?_, ?_⟩
 · have hw1 := HW1.out
   simp only [List.nil_append] at hw1
   have h1 := items_of_win (A' := fun k => A k ∨ (w0.heap.size ≤ k ∧ k < w1.heap.size)) hw1 rfl HR1.out (fun _ h => .inl h) (fun k h h' => .inr ⟨h, h'⟩)
   have h2 := h1.itKeeps hS (fun k hk h2 => by
    rcases hk with hk | hk
    · have := HA.out k hk; omega
    · omega)
   refine ⟨_, rfl, h2.itMono fun k hk => ?_⟩
   rcases hk with hk | hk
   · exact .inl hk
   · have := hS.size; have := HE.out.size; exact .inr ⟨by omega, by omega⟩
 · refine ⟨_, rfl, ?_⟩
   exact (((HI.out.ext HE.out).ext hE1).keeps hS fun k hk h2 => by have := HA.out k hk; omega)
 · exact (HE.out.ext hE1).then hS fun i hi h2 => by omega
end
section
def RPutPost (w : World) (A : Nat → Prop) (R : AR) (x : It) (e : Ending) (w' : World) : Prop :=
 ∃ v', e = .returned (.tuple #[v', .int .i64 ((R.put x).2.1 : Nat), .int .i64 ((R.put x).2.2 : Nat)]) ∧ RefV w' (fun k => A k ∨ (w.heap.size ≤ k ∧ k < w'.heap.size)) v' (R.put x).1 ∧ Ext w w'
theorem RPutPost.mk {w w' : World} {A : Nat → Prop} {R R' : AR} {x : It} {v' : Value} {n m : Nat} (hR : R.put x = (R', n, m)) (h : RefV w' (fun k => A k ∨ (w.heap.size ≤ k ∧ k < w'.heap.size)) v' R') (hk : Ext w w') :
 RPutPost w A R x (.returned (.tuple #[v', .int .i64 (n : Int), .int .i64 (m : Int)])) w' := by
 unfold RPutPost; rw [hR]; exact ⟨_, rfl, h, hk⟩
theorem rput_early {A B : Nat → Prop} (w : World) (v vx : Value) (R : AR) (x : It) (h : RefV w A v R) (hv : ItemV w B vx x) (hx : x.bytes.length ≤ 1000000) (he : (x.side = false ∧ x.key ≠ 0) ∨ (¬ (x.side = false ∧ x.key ≠ 0) ∧ 1024 < x.bytes.length)) :
 Calls Tryz.prog 86 #[v, vx] w (RPutPost w A R x) := by
 have HR := Lib.hid h
 obtain ⟨sv, rfl, hs⟩ := h
 obtain ⟨a, c, rfl, -⟩ := hs.itAt
 obtain ⟨bx, rfl, hb⟩ := hv
 obtain ⟨a2, c2, rfl⟩ := hb.len
 clear hs hb
 obtain ⟨xs, xk, xb⟩ := x
 dsimp only at he hx ⊢
 rcases he with ⟨rfl, hk⟩ | ⟨hn, hlong⟩
 · have hkb : (xk == 0) = false := beq_eq_false_iff_ne.2 hk
   have hput : R.put ⟨false, xk, xb⟩ = (R, 0, 2) := by unfold AR.put; rw [if_pos (by simp [hk])]
   have HP := Lib.hid hput
   clear hput
   go_enter Tryz.func86, Tryz.ntmps86
   go_wp2_with fail
   refine bodyPost_ret (v := .tuple #[.agg #[.int .i64 (R.most : Int), .slice a R.items.length c, .int .i64 (R.lost : Int)], .int .i64 0, .int .i64 2]) (by simp [results, Tryz.results86, go_sem]) rfl ?_
   exact RPutPost.mk (n := 0) (m := 2) HP.out ((HR.out.ext ((((Keeps.refl _ _).alloc _).alloc _).alloc _)).mono fun k hk => .inl hk) ((((Keeps.refl _ _).alloc _).alloc _).alloc _)
 · have hput : R.put ⟨xs, xk, xb⟩ = (R, 0, 3) := by
    unfold AR.put
    rw [if_neg (by cases xs <;> simp at hn ⊢; exact hn), if_pos hlong]
   have HP := Lib.hid hput
   clear hput
   have hkb : xs = false → (xk == 0) = true := by intro h; subst h; simp at hn; simp [hn]
   cases xs with
   | true =>
     clear hkb hn
     go_enter Tryz.func86, Tryz.ntmps86
     go_wp2_with fail
     refine bodyPost_ret (v := .tuple #[.agg #[.int .i64 (R.most : Int), .slice a R.items.length c, .int .i64 (R.lost : Int)], .int .i64 0, .int .i64 3]) (by simp [results, Tryz.results86, go_sem]) rfl ?_
     exact RPutPost.mk (n := 0) (m := 3) HP.out ((HR.out.ext ((((Keeps.refl _ _).alloc _).alloc _).alloc _)).mono fun k hk => .inl hk) ((((Keeps.refl _ _).alloc _).alloc _).alloc _)
   | false =>
     have hk0 : xk = 0 := by simpa using hn
     subst hk0
     clear hkb hn
     go_enter Tryz.func86, Tryz.ntmps86
     go_wp2_with fail
     refine bodyPost_ret (v := .tuple #[.agg #[.int .i64 (R.most : Int), .slice a R.items.length c, .int .i64 (R.lost : Int)], .int .i64 0, .int .i64 3]) (by simp [results, Tryz.results86, go_sem]) rfl ?_
     exact RPutPost.mk (n := 0) (m := 3) HP.out ((HR.out.ext ((((Keeps.refl _ _).alloc _).alloc _).alloc _)).mono fun k hk => .inl hk) ((((Keeps.refl _ _).alloc _).alloc _).alloc _)
theorem pside_p33 (x : It) (h : x.side = true) : p33 x = pside false x.key := by
 funext y; unfold p33 pside; rw [h]; simp
theorem pside_p34 : p34 = pside true 0 := by
 funext y; unfold p34 pside; simp
theorem p33_main (x : It) (l : List It) (h : x.side = false) : l.findIdx? (p33 x) = none := by
 rw [List.findIdx?_eq_none_iff]
 intro y _
 unfold p33; rw [h]; rfl
end
end Go.Proofs.YtoadjbgpfihoiaaGreatDoor
