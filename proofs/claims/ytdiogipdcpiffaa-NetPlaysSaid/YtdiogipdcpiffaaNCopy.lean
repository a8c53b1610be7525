/- A net's copy. Conditions: the net lies as 'NetX' says. -/
import Derived.Test.YtdiogipdcpiffaaNRSame
set_option linter.unusedVariables false
set_option maxHeartbeats 400000
set_option maxRecDepth 10000
namespace Go.Proofs.Ytdiogipdcpiffaa
open Go.RowKit

set_option maxHeartbeats 4000000 in
theorem copy_net {F M : Nat → Prop} (w : World) (b : Nat) (N : NA) (h : NetX w F M b N) :
    Calls Try.prog 26 #[.pointer (some ⟨b, 0, none⟩)] w fun e w' => ∃ b' F', e = .returned (.pointer (some ⟨b', 0, none⟩)) ∧ NetX w' F' (fun k => M k ∨ Fr w w' k) b' N ∧ (∀ k, F' k → Fr w w' k) ∧ Ext w w' := by
  have HN := Lib.hid h
  obtain ⟨A, m, v, cs, h⟩ := h
  have HAT := Lib.hid h
  obtain ⟨a, c, rfl⟩ := h.win.len
  have hll : N.l.length ≤ 4096 := by have := h.ll; have := h.m1; omega
  have HB := Lib.hid h.box
  have hbw := h.box.lt
  clear h
  go_enter Try.func26, Try.ntmps26
  go_wp2_with fail
  refine (none_net w b N HN.out).mono ?_
  rintro e w' ⟨rfl, rfl⟩
  obtain ⟨cHB, zHB⟩ := HB.out.reads
  have lHB := HB.out.lt
  go_wp2_with fail
  clear cHB zHB lHB
  have bx0 := (Box.new w 72 [.int .i64 (N.ends : Int), .int .i64 (N.most : Int), .int .i64 (N.came : Int), .slice a N.l.length c, .map (some m)])
  have ex : Ext w (w.alloc (Obj.cells #[.int .i64 (N.ends : Int), .int .i64 (N.most : Int), .int .i64 (N.came : Int), .slice a N.l.length c, .map (some m)] 72)) := ((Keeps.refl NoB w).alloc _)
  have sx : (w.alloc (Obj.cells #[.int .i64 (N.ends : Int), .int .i64 (N.most : Int), .int .i64 (N.came : Int), .slice a N.l.length c, .map (some m)] 72)).heap.size = w.heap.size + 1 := by simp
  generalize (w.alloc (Obj.cells #[.int .i64 (N.ends : Int), .int .i64 (N.most : Int), .int .i64 (N.came : Int), .slice a N.l.length c, .map (some m)] 72)) = w0 at bx0 ex sx ⊢
  have Sx := Lib.hid sx
  clear sx
  have B0 := Lib.hid bx0
  have h0 := bx0.lt
  have HE := Lib.hid ex
  replace HB := Lib.hid (HB.out.ext ex)
  clear ex bx0
  obtain ⟨cHB, zHB⟩ := HB.out.reads
  have lHB := HB.out.lt
  obtain ⟨cB0, zB0⟩ := B0.out.reads
  have lB0 := B0.out.lt
  have hE0 : Keeps NoB w0 w0.drew := (Keeps.refl _ _).drew
  refine wp_region_plan [(0, 0), (0, 1), (0, 2), (3, 3), (0, 5), (0, 6), (0, 7), (1, 8), (2, 4)] [8] [4, 9, 10, 11, 12, 13] [9, 10, 11, 12, 13] (ClsE w0) (by kernel_rfl) (by kernel_rfl) (by kernel_rfl) rfl rfl (ClsE.of hE0) (fun _ _ _ d _ h => by cases d <;> exact h) ?_; simp only [planL, List.getElem?_toArray, List.getElem?_cons_succ, List.getElem?_cons_zero]
  refine plan_pure rfl (fun K hK => quiet_move' _ rfl (hK _ ?_)); clear hK K; simp only [Act.put, Act.eval, Array.getD_eq_getD_getElem?, List.getElem?_toArray, List.getElem?_cons_zero, Option.getD_some, List.setIfInBounds_toArray, List.set_cons_zero, List.set_cons_succ]
  refine plan_pure rfl (fun K hK => quiet_run (v := ?_) (fun W _ => ?_) (hK _ ?_)); rotate_left; (go_simp <;> with_reducible rfl); clear hK K; simp only [Act.put, List.setIfInBounds_toArray, List.set_cons_zero, List.set_cons_succ]
  refine plan_pure rfl (fun K hK => quiet_run (v := ?_) (fun W _ => ?_) (hK _ ?_)); rotate_left; (go_simp <;> with_reducible rfl); clear hK K; simp only [Act.put, List.setIfInBounds_toArray, List.set_cons_zero, List.set_cons_succ]
  refine plan_exact rfl (fun K hK => quiet_runX (v := ?_) ?_ (hK _ ?_)); rotate_left; (go_simp <;> with_reducible rfl); clear hK K; simp only [Act.put, List.setIfInBounds_toArray, List.set_cons_zero, List.set_cons_succ]
  refine plan_pure rfl (fun K hK => quiet_move' _ rfl (hK _ ?_)); clear hK K; simp only [Act.put, Act.eval, Array.getD_eq_getD_getElem?, List.getElem?_toArray, List.getElem?_cons_zero, Option.getD_some, List.setIfInBounds_toArray, List.set_cons_zero, List.set_cons_succ]
  refine plan_pure rfl (fun K hK => quiet_run (v := ?_) (fun W _ => ?_) (hK _ ?_)); rotate_left; (go_simp <;> with_reducible rfl); clear hK K; simp only [Act.put, List.setIfInBounds_toArray, List.set_cons_zero, List.set_cons_succ]
  refine plan_pure rfl (fun K hK => quiet_run (v := ?_) (fun W _ => ?_) (hK _ ?_)); rotate_left; (go_simp <;> with_reducible rfl); clear hK K; simp only [Act.put, List.setIfInBounds_toArray, List.set_cons_zero, List.set_cons_succ]
  refine plan_load rfl (fun K hK => quiet_runE (v := ?_) (fun W => ?_) (hK _ ?_)); rotate_left; (go_simp <;> with_reducible rfl); clear hK K; simp only [Act.put, List.setIfInBounds_toArray, List.set_cons_zero, List.set_cons_succ]
  refine plan_does rfl (fun K hK => ?_)
  go_wp2_with fail
  have hE1 : Ext w w0.drew := HE.out.ext hE0
  refine (clone_ways (A := A) w0.drew _ cs N.l (HAT.out.win.ext hE1) (HAT.out.row.mono fun c p hc => hc.keeps hE1 (fun _ _ => noB _)) hll (fun k hk => by have := (HAT.out.fa k hk).1; have := hE1.size; omega)).mono ?_
  rintro e w1 ⟨v1, cs1, rfl, hwin, hrow, hE⟩
  obtain ⟨a1, c1, rfl⟩ := hwin.len
  have hE01 := hE0.ext hE
  have HW1 := Lib.hid hwin
  have HR1 := Lib.hid hrow
  clear hwin hrow hE1
  refine hK _ _ ⟨ClsE.of (by assumption), ?_⟩; clear hK K; try simp only [Act.put, List.setIfInBounds_toArray, List.set_cons_zero, List.set_cons_succ]
  refine plan_nil ?_; simp only [tailL, List.filterMap_cons, List.filterMap_nil, List.getElem?_toArray, List.getElem?_cons_succ, List.getElem?_cons_zero]; change wpList _ _ _ (_ :: _ :: _ :: _ :: _ :: []) _ _
  go_wp2_with fail
  refine (maps_clone w1 m N.downs (HAT.out.dn.ext (HE.out.ext hE01))).mono ?_
  rintro e w2 ⟨rfl, hs, hE2⟩
  have hE02 := hE01.ext hE2
  have HS2 := Lib.hid hs
  clear hs
  have h1s := hE01.size
  have h2s := hE2.size
  have hm1 := HS2.out.lt
  have HE2 := Lib.hid (HE.out.ext hE02)
  have HW2 := Lib.hid (HW1.out.ext hE2)
  have HR2 := Lib.hid (HR1.out.mono fun c p hc => hc.keeps hE2 (fun _ _ => noB _))
  clear cHB zHB lHB cB0 zB0 lB0
  replace B0 := Lib.hid (B0.out.ext hE02)
  clear hE0 hE hE01 hE02 hE2 HB
  have hb0 : w.heap.size < w1.heap.size := by omega
  obtain ⟨cB0, zB0⟩ := B0.out.reads
  have lB0 := B0.out.lt
  go_wp2_with fail
  clear cB0 zB0 lB0
  have q1 := (B0.out.set 3 (.slice a1 N.l.length c1)).set 4 (.map (some w1.heap.size))
  dsimp only [List.set_cons_zero, List.set_cons_succ] at q1
  have hk : Keeps (OneB w.heap.size) w2 ((w2.setCell ⟨w.heap.size, 3, none⟩ (.slice a1 N.l.length c1)).setCell ⟨w.heap.size, 4, none⟩ (.map (some w1.heap.size))) := ((Keeps.refl _ _).setOne _ _).setOne _ _
  generalize ((w2.setCell ⟨w.heap.size, 3, none⟩ (.slice a1 N.l.length c1)).setCell ⟨w.heap.size, 4, none⟩ (.map (some w1.heap.size))) = w9 at q1 hk ⊢
  have hks := hk.size
  go_ret
  have hE9 : Ext w w9 := HE2.out.then hk (fun i hi h => by unfold OneB at h; omega)
  have hown : ∀ g, Value.ownBlock (.slice a1 N.l.length c1) = some g → w0.heap.size ≤ g ∧ g < w1.heap.size := fun g hg => HW1.out.block g hg
  have hF : ∀ k, (k = w.heap.size ∨ k = w1.heap.size ∨ Value.ownBlock (.slice a1 N.l.length c1) = some k) → Fr w w9 k := fun k hk' => by
    rcases hk' with h | h | h
    · exact ⟨by omega, by omega⟩
    · exact ⟨by omega, by omega⟩
    · have := hown k h; exact ⟨by omega, by omega⟩
  refine ⟨w.heap.size, (fun k => k = w.heap.size ∨ k = w1.heap.size ∨ Value.ownBlock (.slice a1 N.l.length c1) = some k), rfl, ?_, hF, hE9⟩
  refine ⟨A, w1.heap.size, .slice a1 N.l.length c1, cs1, ?_⟩
  exact {
    box := q1
    win := by
      obtain ⟨g0, g1⟩ := HW2.out.keeps hk (fun g hg h => by have := hown g hg; unfold OneB at h; omega)
      refine ⟨g0, g1.imp id fun ⟨g, o, cap, e1, e2, e3⟩ => ⟨g, o, cap, e1, Nat.zero_le _, e3⟩⟩
    row := HR2.out.mono fun c p hc => hc.keeps hk (fun k hk h => by have := (HAT.out.fa k hk).1; unfold OneB at h; omega)
    dn := HS2.out.keeps hk (by unfold OneB; omega)
    fb := .inl rfl
    fm := .inr (.inl rfl)
    bm := by omega
    fv := fun g hg => ⟨.inr (.inr hg), by have := hown g hg; omega, by have := hown g hg; omega⟩
    fa := fun k hk' => ⟨by have := (HAT.out.fa k hk').1; omega, fun hm => hm.elim (HAT.out.fa k hk').2 (fun hn => by have := (HAT.out.fa k hk').1; have := hn.1; omega)⟩
    fM := fun k hk' => .inr (hF k hk')
    lt := fun k hk' => hk'.elim (fun h => by have := HAT.out.lt k h; omega) (fun h => h.2)
    e1 := HAT.out.e1
    m1 := HAT.out.m1
    ll := HAT.out.ll
    ok := HAT.out.ok }
end Go.Proofs.Ytdiogipdcpiffaa
