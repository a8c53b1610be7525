/- The net statements' 'played': a net behind calls, and the document's; they tell the same. Conditions: the calls lie as 'Acts' says, and are few. -/
import Derived.Test.YtdiogipdcpiffaaNIs
set_option linter.unusedVariables false
set_option maxHeartbeats 400000
set_option maxRecDepth 10000
namespace Go.Proofs.Ytdiogipdcpiffaa
open Go.RowKit

def NA.acts (N : NA) (l : List Ac) : NA := l.foldl NA.act N
theorem acts_succ (N : NA) (l : List Ac) (k : Nat) (h : k < l.length) : N.acts (l.take (k + 1)) = (N.acts (l.take k)).act l[k] := by
  unfold NA.acts
  rw [List.take_succ_eq_append_getElem h, List.foldl_append]
  rfl
def NA.new (e m : Nat) : NA := ⟨e, m, 0, [], []⟩
def PlayedPost (w : World) (e m : Nat) (l : List Ac) (r : Ending) (w' : World) : Prop :=
  ∃ F M b v', r = .returned (.tuple #[.pointer (some ⟨b, 0, none⟩), v', .bool true]) ∧ Rig w w' F M b ((NA.new e m).acts l) ∧ RefX w' M v' ((NA.new e m).acts l) ∧ NB ((NA.new e m).acts l) l.length

theorem NetX.moreE {w : World} {F M M2 : Nat → Prop} {b : Nat} {N : NA} (h : NetX w F M b N) (h0 : N.l = []) (hM : ∀ k, M k → M2 k) (hlt : ∀ k, M2 k → k < w.heap.size) : NetX w F M2 b N := by
  obtain ⟨A, m, v, cs, h⟩ := h
  have hcs : cs = [] := by
    have := h.win.1
    rw [h0] at this
    exact List.eq_nil_of_length_eq_zero (by simpa using this)
  exact ⟨fun _ => False, m, v, cs, { h with row := by rw [hcs, h0]; exact RowOf.nil, fa := fun k hk => hk.elim, fM := fun k hk => hM k (h.fM k hk), lt := hlt }⟩
theorem played_out {A : Nat → Prop} (w : World) (en m : Int) (v : Value) (l : List Ac) (h : Acts w A v l) (hm : en < 1 ∨ 64 < en ∨ m < 1 ∨ 4096 < m) :
    Calls Try.prog 16 #[.int .i64 en, .int .i64 m, v] w fun e w' => e = .returned (.tuple #[.pointer none, .agg #[.int .i64 0, .int .i64 0, .int .i64 0, .slice none 0 0, .slice none 0 0], .bool true]) ∧ Ext w w' := by
  obtain ⟨a, c, rfl, -⟩ := h.at
  have HM := Lib.hid hm
  clear h hm
  go_enter Try.func16, Try.ntmps16
  go_wp2_with fail
  have bx0 := (Box.new w 41 [.int .i64 0, .int .i64 0, .int .i64 0, .slice none 0 0, .slice none 0 0])
  have ex : Ext w (w.alloc (Obj.cells #[.int .i64 0, .int .i64 0, .int .i64 0, .slice none 0 0, .slice none 0 0] 41)) := ((Keeps.refl NoB w).alloc _)
  have sx : (w.alloc (Obj.cells #[.int .i64 0, .int .i64 0, .int .i64 0, .slice none 0 0, .slice none 0 0] 41)).heap.size = w.heap.size + 1 := by simp
  generalize (w.alloc (Obj.cells #[.int .i64 0, .int .i64 0, .int .i64 0, .slice none 0 0, .slice none 0 0] 41)) = w0 at bx0 ex sx ⊢
  have Sx := Lib.hid sx
  clear sx
  have B0 := Lib.hid bx0
  have HE := Lib.hid ex
  clear bx0 ex
  refine (new_bad _ en m HM.out).mono ?_
  rintro e w' ⟨rfl, rfl⟩
  go_wp2_with fail
  refine (rnew_no _ en m HM.out).mono ?_
  rintro e w1 ⟨rfl, hE⟩
  replace HE := Lib.hid (HE.out.ext hE)
  replace B0 := Lib.hid (B0.out.ext hE)
  clear hE
  obtain ⟨cB0, zB0⟩ := B0.out.reads
  have lB0 := B0.out.lt
  go_wp2_with fail
  clear cB0 zB0 lB0
  have by0 := (Box.new w1 41 [.int .i64 0, .int .i64 0, .int .i64 0, .slice none 0 0, .slice none 0 0])
  have ey : Ext w1 (w1.alloc (Obj.cells #[.int .i64 0, .int .i64 0, .int .i64 0, .slice none 0 0, .slice none 0 0] 41)) := ((Keeps.refl NoB w1).alloc _)
  have sy : (w1.alloc (Obj.cells #[.int .i64 0, .int .i64 0, .int .i64 0, .slice none 0 0, .slice none 0 0] 41)).heap.size = w1.heap.size + 1 := by simp
  generalize (w1.alloc (Obj.cells #[.int .i64 0, .int .i64 0, .int .i64 0, .slice none 0 0, .slice none 0 0] 41)) = w2 at by0 ey sy ⊢
  have Sy := Lib.hid sy
  clear sy
  replace HE := Lib.hid (HE.out.ext ey)
  replace B0 := Lib.hid (B0.out.ext ey)
  have C0 := Lib.hid by0
  clear ey by0
  refine (num_any _ _).mono ?_
  rintro e w' ⟨rfl, rfl⟩
  obtain ⟨cB0, zB0⟩ := B0.out.reads
  have lB0 := B0.out.lt
  obtain ⟨cC0, zC0⟩ := C0.out.reads
  have lC0 := C0.out.lt
  go_wp2_with fail
  go_loop [13, 14] (fun f i => f = .bool true ∧ i = .int .i64 0) (fun _ _ => 0)
  case atStart => exact ⟨rfl, rfl⟩
  case round =>
    obtain ⟨rfl, rfl⟩ := hrel
    by_cases h0 : 0 < l.length
    all_goals
      go_wp2_with fail
      have hE0 : Keeps NoB w2 w2.drew := (Keeps.refl _ _).drew
      refine wp_region_plan [(0, 0), (3, 1), (0, 2), (0, 3)] [] [4, 5] [4, 5] (ClsE w2) (by kernel_rfl) (by kernel_rfl) (by kernel_rfl) rfl rfl (ClsE.of hE0) (fun _ _ _ d _ h => by cases d <;> exact h) ?_; simp only [planL, List.getElem?_toArray, List.getElem?_cons_succ, List.getElem?_cons_zero]
      refine plan_pure rfl (fun K hK => quiet_move' _ rfl (hK _ ?_)); clear hK K; simp only [Act.put, Act.eval, Array.getD_eq_getD_getElem?, List.getElem?_toArray, List.getElem?_cons_zero, List.getElem?_cons_succ, Option.getD_some, List.setIfInBounds_toArray, List.set_cons_zero, List.set_cons_succ]
      refine plan_exact rfl (fun K hK => quiet_runX (v := ?_) ?_ (hK _ ?_)); rotate_left; (go_simp <;> with_reducible rfl); clear hK K; simp only [Act.put, List.setIfInBounds_toArray, List.set_cons_zero, List.set_cons_succ]
      refine plan_pure rfl (fun K hK => quiet_move' _ rfl (hK _ ?_)); clear hK K; simp only [Act.put, Act.eval, Array.getD_eq_getD_getElem?, List.getElem?_toArray, List.getElem?_cons_zero, List.getElem?_cons_succ, Option.getD_some, List.setIfInBounds_toArray, List.set_cons_zero, List.set_cons_succ]
      refine plan_pure rfl (fun K hK => quiet_assign' _ rfl (hK _ ?_)); clear hK K; simp only [Act.put, Act.eval, Array.getD_eq_getD_getElem?, List.getElem?_toArray, List.getElem?_cons_zero, List.getElem?_cons_succ, Option.getD_some, List.setIfInBounds_toArray, List.set_cons_zero, List.set_cons_succ]
      refine plan_nil ?_; simp only [tailL, List.filterMap_cons, List.filterMap_nil, List.getElem?_toArray, List.getElem?_cons_succ, List.getElem?_cons_zero]; change wpList _ _ _ (_ :: _ :: []) _ _
      go_wp2_with fail
      clear cB0 zB0 lB0 cC0 zC0 lC0
      have r1 := (((((B0.out.set 0 (.int .i64 0)).set 1 (.int .i64 0)).set 2 (.int .i64 0)).set 3 (.slice none 0 0)).set 4 (.slice none 0 0)).reads.1
      dsimp only [List.set_cons_zero, List.set_cons_succ] at r1
      refine bodyPost_ret (v := .tuple #[.pointer none, .agg #[.int .i64 0, .int .i64 0, .int .i64 0, .slice none 0 0, .slice none 0 0], .bool true]) (by simp [results, Try.results16, go_sem, r1]) rfl ⟨rfl, ?_⟩
      exact HE.out.then (((((((Keeps.refl (OneB w.heap.size) w2).setOne 0 (.int .i64 0)).setOne 1 (.int .i64 0)).setOne 2 (.int .i64 0)).setOne 3 (.slice none 0 0)).setOne 4 (.slice none 0 0)).drew) (fun i hi h => by unfold OneB at h; omega)

structure PI (w wr : World) (F M : Nat → Prop) (b q p k : Nat) (a : Option Addr) (c : Nat) (a' : Option Addr) (c' : Nat) (N : NA) : Prop where
  rig : Rig w wr F M b N
  box : Box wr q 41 [.int .i64 (N.ends : Int), .int .i64 (N.most : Int), .int .i64 (N.came : Int), .slice a N.l.length c, .slice a' N.downs.length c']
  res : Box wr p 41 [.int .i64 0, .int .i64 0, .int .i64 0, .slice none 0 0, .slice none 0 0]
  ref : RefX wr M (.agg #[.int .i64 (N.ends : Int), .int .i64 (N.most : Int), .int .i64 (N.came : Int), .slice a N.l.length c, .slice a' N.downs.length c']) N
  bd : NB N k
  fq : ¬ F q ∧ M q
  fp : ¬ F p ∧ M p

set_option maxHeartbeats 4000000 in
theorem played_in {A : Nat → Prop} (w : World) (en m : Nat) (v : Value) (l : List Ac) (h : Acts w A v l) (h1 : 1 ≤ en) (h2 : en ≤ 64) (h3 : 1 ≤ m) (h4 : m ≤ 4096) (hs : ∀ x ∈ l, x.ok ∧ x.bytes.length ≤ 200) (hn : l.length ≤ 1000) (hA : ∀ k, A k → k < w.heap.size) :
    Calls Try.prog 16 #[.int .i64 (en : Int), .int .i64 (m : Int), v] w (PlayedPost w en m l) := by
  have HA := Lib.hid hA
  have HS := Lib.hid hs
  obtain ⟨a, c, rfl, hat⟩ := h.at
  have HAT := Lib.hid hat
  clear h hA hat hs
  go_enter Try.func16, Try.ntmps16
  go_wp2_with fail
  have bx0 := (Box.new w 41 [.int .i64 0, .int .i64 0, .int .i64 0, .slice none 0 0, .slice none 0 0])
  have ex : Ext w (w.alloc (Obj.cells #[.int .i64 0, .int .i64 0, .int .i64 0, .slice none 0 0, .slice none 0 0] 41)) := ((Keeps.refl NoB w).alloc _)
  have sx : (w.alloc (Obj.cells #[.int .i64 0, .int .i64 0, .int .i64 0, .slice none 0 0, .slice none 0 0] 41)).heap.size = w.heap.size + 1 := by simp
  generalize (w.alloc (Obj.cells #[.int .i64 0, .int .i64 0, .int .i64 0, .slice none 0 0, .slice none 0 0] 41)) = w0 at bx0 ex sx ⊢
  have Sx := Lib.hid sx
  clear sx
  have BP := Lib.hid bx0
  have HE := Lib.hid ex
  have hp0 := bx0.lt
  clear bx0 ex
  refine (new_any w0 en m en m rfl rfl h1 h2 h3 h4).mono ?_
  rintro e w1 ⟨b, rfl, hr, hE⟩
  have HN := Lib.hid hr
  have h01 := hE.size
  replace HE := Lib.hid (HE.out.ext hE)
  replace BP := Lib.hid (BP.out.ext hE)
  clear hr hE
  obtain ⟨cBP, zBP⟩ := BP.out.reads
  have lBP := BP.out.lt
  go_wp2_with fail
  clear cBP zBP lBP
  refine (rnew_yes w1 en m h1 h2 h3 h4).mono ?_
  rintro e w2 ⟨rfl, hE⟩
  have h12 := hE.size
  replace HE := Lib.hid (HE.out.ext hE)
  replace BP := Lib.hid (BP.out.ext hE)
  replace HN := Lib.hid (HN.out.ext hE)
  clear hE
  obtain ⟨cBP, zBP⟩ := BP.out.reads
  have lBP := BP.out.lt
  go_wp2_with fail
  clear cBP zBP lBP
  have by0 := (Box.new w2 41 [.int .i64 (en : Int), .int .i64 (m : Int), .int .i64 0, .slice none 0 0, .slice none 0 0])
  have ey : Ext w2 (w2.alloc (Obj.cells #[.int .i64 (en : Int), .int .i64 (m : Int), .int .i64 0, .slice none 0 0, .slice none 0 0] 41)) := ((Keeps.refl NoB w2).alloc _)
  have sy : (w2.alloc (Obj.cells #[.int .i64 (en : Int), .int .i64 (m : Int), .int .i64 0, .slice none 0 0, .slice none 0 0] 41)).heap.size = w2.heap.size + 1 := by simp
  generalize (w2.alloc (Obj.cells #[.int .i64 (en : Int), .int .i64 (m : Int), .int .i64 0, .slice none 0 0, .slice none 0 0] 41)) = w3 at by0 ey sy ⊢
  have Sy := Lib.hid sy
  clear sy
  have hz0 := by0.lt
  have hMM : ∀ k, (Fr w0 w1 k ∨ k = w.heap.size ∨ k = w2.heap.size) → w.heap.size ≤ k ∧ k < w3.heap.size := fun k hk => by
    rcases hk with hk | hk | hk
    · have := hk.1; have := hk.2; omega
    · omega
    · omega
  have hN3 : NetX w3 (Fr w0 w1) (fun k => Fr w0 w1 k ∨ k = w.heap.size ∨ k = w2.heap.size) b (NA.new en m) := (HN.out.ext ey).moreE rfl (fun k hk => .inl hk) (fun k hk => (hMM k hk).2)
  have H3 : Hid (PI w w3 (Fr w0 w1) (fun k => Fr w0 w1 k ∨ k = w.heap.size ∨ k = w2.heap.size) b w2.heap.size w.heap.size 0 none 0 none 0 (NA.new en m)) :=
    Lib.hid ⟨⟨hN3, fun k hk => (hMM k hk).1, HE.out.ext ey⟩, by0, BP.out.ext ey, ⟨fun _ => False, ⟨_, _, rfl, SlV.nil, SlV.nil⟩, fun k hk => hk.elim⟩, ⟨h2, h4, Nat.zero_le _, Nat.le_refl _, Nat.le_refl _⟩,
      ⟨fun h => by have := h.2; omega, .inr (.inr rfl)⟩, ⟨fun h => by have := h.1; omega, .inr (.inl rfl)⟩⟩
  clear by0 ey hMM hN3
  refine (num_any _ _).mono ?_
  rintro e w' ⟨rfl, rfl⟩
  go_wp2_with fail
  obtain ⟨q, hq⟩ : ∃ q, w2.heap.size = q := ⟨_, rfl⟩
  obtain ⟨p, hp⟩ : ∃ p, w.heap.size = p := ⟨_, rfl⟩
  have HPW := Lib.hid hp
  rw [hq, hp] at H3 ⊢
  have hqp : ¬ q = p := by omega
  have hpq : ¬ p = q := by omega
  clear hq hp BP HE hp0 h01 h12 hz0 HN
  go_loopw [13, 14] (fun f i wr => ∃ (k : Nat) (F M : Nat → Prop) (a : Option Addr) (c : Nat) (a' : Option Addr) (c' : Nat), f = .bool true ∧ k ≤ l.length ∧ i = .int .i64 k ∧ Hid (PI w wr F M b q p k a c a' c' ((NA.new en m).acts (l.take k)))) (fun _ i _ => l.length - (intOf i).toNat)
  case atStart => exact ⟨0, _, _, _, _, _, _, rfl, Nat.zero_le _, rfl, H3⟩
  case round =>
    obtain ⟨k, F, M, a1, c1, a1', c1', rfl, hk, rfl, hh⟩ := hrel
    clear H3
    by_cases hlt : k < l.length
    · have hsucc := acts_succ (NA.new en m) l k hlt
      obtain ⟨N, hN⟩ : ∃ N, (NA.new en m).acts (l.take k) = N := ⟨_, rfl⟩
      rw [hN] at hh hsucc
      have HSU := Lib.hid hsucc
      clear hN hsucc
      obtain ⟨bl, ol, rfl, hc, hAb, hact⟩ := HAT.out k hlt
      generalize hx : l[k] = x at hact HSU
      have hxo := HS.out x (hx ▸ List.getElem_mem hlt)
      clear hx
      have hEw := hh.out.rig.E
      obtain ⟨j0, j1, j2, j3, j5, ab, cb, j4, jb⟩ := (hact.keeps hEw (noB _) (fun _ _ => noB _)).reads
      have HXO := Lib.hid hxo
      have hblw : bl < wr.heap.size := Nat.lt_of_lt_of_le (HA.out _ hAb) hEw.size
      have HJB := Lib.hid jb
      have HBX := Lib.hid hh.out.box
      have HRS := Lib.hid hh.out.res
      clear hact hxo hEw jb
      obtain ⟨cHBX, zHBX⟩ := HBX.out.reads
      have lHBX := HBX.out.lt
      obtain ⟨cHRS, zHRS⟩ := HRS.out.reads
      have lHRS := HRS.out.lt
      go_wp2_with fail
      have hE0 : Keeps (F) wr wr.drew := (Keeps.refl _ _).drew
      refine wp_region_plan [(0, 0), (3, 1), (0, 2), (0, 3), (0, 4), (3, 5), (2, 6), (0, 7), (0, 8), (0, 9)] [] [6, 10, 11] [10, 11] (ClsK (F) wr) (by kernel_rfl) (by kernel_rfl) (by kernel_rfl) rfl rfl (ClsK.of hE0) (fun _ _ _ d _ h => by cases d <;> exact h) ?_; simp only [planL, List.getElem?_toArray, List.getElem?_cons_succ, List.getElem?_cons_zero]
      refine plan_pure rfl (fun K hK => quiet_move' _ rfl (hK _ ?_)); clear hK K; simp only [Act.put, Act.eval, Array.getD_eq_getD_getElem?, List.getElem?_toArray, List.getElem?_cons_zero, List.getElem?_cons_succ, Option.getD_some, List.setIfInBounds_toArray, List.set_cons_zero, List.set_cons_succ]
      refine plan_exact rfl (fun K hK => quiet_runX (v := ?_) ?_ (hK _ ?_)); rotate_left; (go_simp <;> with_reducible rfl); clear hK K; simp only [Act.put, List.setIfInBounds_toArray, List.set_cons_zero, List.set_cons_succ]
      refine plan_pure rfl (fun K hK => quiet_move' _ rfl (hK _ ?_)); clear hK K; simp only [Act.put, Act.eval, Array.getD_eq_getD_getElem?, List.getElem?_toArray, List.getElem?_cons_zero, List.getElem?_cons_succ, Option.getD_some, List.setIfInBounds_toArray, List.set_cons_zero, List.set_cons_succ]
      refine plan_pure rfl (fun K hK => quiet_move' _ rfl (hK _ ?_)); clear hK K; simp only [Act.put, Act.eval, Array.getD_eq_getD_getElem?, List.getElem?_toArray, List.getElem?_cons_zero, List.getElem?_cons_succ, Option.getD_some, List.setIfInBounds_toArray, List.set_cons_zero, List.set_cons_succ]
      refine plan_pure rfl (fun K hK => quiet_run (v := ?_) (fun W _ => ?_) (hK _ ?_)); rotate_left; (go_simp <;> with_reducible rfl); clear hK K; simp only [Act.put, List.setIfInBounds_toArray, List.set_cons_zero, List.set_cons_succ]
      refine plan_exact rfl (fun K hK => quiet_runX (v := ?_) ?_ (hK _ ?_)); rotate_left; (go_simp <;> with_reducible rfl); clear hK K; simp only [Act.put, List.setIfInBounds_toArray, List.set_cons_zero, List.set_cons_succ]
      refine plan_does rfl (fun K hK => ?_)
      go_wp2_with fail
      refine (act_any (B := A) wr.drew b N _ _ x k (hh.out.rig.net.ext (Ext.drew0 _)) (hh.out.ref.ext (Ext.drew0 _)) ⟨_, rfl, HJB.out.ext (Ext.drew0 _)⟩ HXO.out.1 HXO.out.2 hh.out.bd (by omega)).mono ?_
      rintro e w4 ⟨F', M', v4, rfl, hn4, hr4, hs4⟩
      obtain ⟨a4, c4, a4', c4', rfl⟩ := hr4.len
      have HN4 := Lib.hid hn4
      have HR4 := Lib.hid hr4
      have hs4' : Step wr w4 F M F' M' := ⟨((Keeps.refl F wr).drew).trans hs4.keeps, hs4.inF, hs4.inM, hs4.sub⟩
      have HS4 := Lib.hid hs4'
      have hk4 := hs4'.keeps
      have hfq := hh.out.fq
      have hfp := hh.out.fp
      have B4 := Lib.hid (hh.out.box.keeps hk4 hfq.1)
      have P4 := Lib.hid (hh.out.res.keeps hk4 hfp.1)
      clear hn4 hr4 hs4 hs4' hfq hfp
      refine hK _ _ ⟨ClsK.of (by assumption), ?_⟩; clear hK K; try simp only [Act.put, List.setIfInBounds_toArray, List.set_cons_zero, List.set_cons_succ]
      refine plan_pure rfl (fun K hK => quiet_move' _ rfl (hK _ ?_)); clear hK K; simp only [Act.put, Act.eval, Array.getD_eq_getD_getElem?, List.getElem?_toArray, List.getElem?_cons_zero, List.getElem?_cons_succ, Option.getD_some, List.setIfInBounds_toArray, List.set_cons_zero, List.set_cons_succ]
      refine plan_pure rfl (fun K hK => quiet_run (v := ?_) (fun W _ => ?_) (hK _ ?_)); rotate_left; (go_simp <;> with_reducible rfl); clear hK K; simp only [Act.put, List.setIfInBounds_toArray, List.set_cons_zero, List.set_cons_succ]
      refine plan_pure rfl (fun K hK => quiet_run (v := ?_) (fun W _ => ?_) (hK _ ?_)); rotate_left; (go_simp <;> with_reducible rfl); clear hK K; simp only [Act.put, List.setIfInBounds_toArray, List.set_cons_zero, List.set_cons_succ]
      refine plan_nil ?_; simp only [tailL, List.filterMap_cons, List.filterMap_nil, List.getElem?_toArray, List.getElem?_cons_succ, List.getElem?_cons_zero]; change wpList _ _ _ (_ :: _ :: []) _ _
      clear cHBX zHBX lHBX cHRS zHRS lHRS
      have h4s := hk4.size
      clear hk4 hE0
      obtain ⟨cB4, zB4⟩ := B4.out.reads
      have lB4 := B4.out.lt
      obtain ⟨cP4, zP4⟩ := P4.out.reads
      have lP4 := P4.out.lt
      go_wp2_with fail
      clear cB4 zB4 lB4 cP4 zP4 lP4
      have hbd4 := hh.out.bd.act x
      obtain ⟨N', hN'⟩ : ∃ N', N.act x = N' := ⟨_, rfl⟩
      rw [hN'] at HN4 HR4 HSU hbd4 ⊢
      have HBD := Lib.hid hbd4
      have hkq : Keeps (OneB q) w4 (((((w4.setCell ⟨q, 0, none⟩ (.int .i64 (N'.ends : Int))).setCell ⟨q, 1, none⟩ (.int .i64 (N'.most : Int))).setCell ⟨q, 2, none⟩ (.int .i64 (N'.came : Int))).setCell ⟨q, 3, none⟩ (.slice a4 N'.l.length c4)).setCell ⟨q, 4, none⟩ (.slice a4' N'.downs.length c4')) := (((((Keeps.refl _ w4).setOne _ _).setOne _ _).setOne _ _).setOne _ _).setOne _ _
      have B5 := ((((B4.out.set 0 (.int .i64 (N'.ends : Int))).set 1 (.int .i64 (N'.most : Int))).set 2 (.int .i64 (N'.came : Int))).set 3 (.slice a4 N'.l.length c4)).set 4 (.slice a4' N'.downs.length c4')
      dsimp only [List.set_cons_zero, List.set_cons_succ] at B5
      generalize (((((w4.setCell ⟨q, 0, none⟩ (.int .i64 (N'.ends : Int))).setCell ⟨q, 1, none⟩ (.int .i64 (N'.most : Int))).setCell ⟨q, 2, none⟩ (.int .i64 (N'.came : Int))).setCell ⟨q, 3, none⟩ (.slice a4 N'.l.length c4)).setCell ⟨q, 4, none⟩ (.slice a4' N'.downs.length c4')) = w5 at hkq B5 ⊢
      have hfq := hh.out.fq
      have hfp := hh.out.fp
      have hlq := hh.out.box.lt
      have hlp := hh.out.res.lt
      have hrig4 : Rig w w4 F' M' b N' := hh.out.rig.step HN4.out HS4.out
      have hq' : ¬ F' q := fun h => (HS4.out.inF q h).elim hfq.1 (fun h => by omega)
      have hp' : ¬ F' p := fun h => (HS4.out.inF p h).elim hfp.1 (fun h => by omega)
      have hMq : M' q := HS4.out.sub q hfq.2
      have hMp : M' p := HS4.out.sub p hfp.2
      have hn5 : NetX w5 F' M' b N' := HN4.out.keeps hkq (fun k hk h => by unfold OneB at h; subst h; exact hq' hk) (fun k hk h => by unfold OneB at h; subst h; exact hMq)
      have H5 : Hid (PI w w5 F' M' b q p (k + 1) a4 c4 a4' c4' N') := Lib.hid ⟨⟨hn5, hrig4.base, hrig4.E.then hkq (fun i hi h => by unfold OneB at h; have := hrig4.base q hMq; omega)⟩, B5, P4.out.keeps hkq (by unfold OneB; omega),
        HR4.out.go hkq (fun k hk h => by unfold OneB at h; subst h; exact hMq) (fun k hk => .inl hk), HBD.out, ⟨hq', hMq⟩, ⟨hp', hMp⟩⟩
      clear hfq hfp hlq hlp hrig4 hq' hp' hMq hMp hn5 hkq B4 P4 HBX HRS hh hN' HN4 HR4 HS4 hbd4
      have C5 := Lib.hid B5
      clear B5
      obtain ⟨cC5, zC5⟩ := C5.out.reads
      have lC5 := C5.out.lt
      refine (is_any w5 b N' _ H5.out.rig.net H5.out.ref (by have := H5.out.bd.c; omega)).mono ?_
      rintro e w6 ⟨rfl, hE⟩
      have H6 : Hid (PI w w6 F' M' b q p (k + 1) a4 c4 a4' c4' N') := Lib.hid ⟨H5.out.rig.ext hE, H5.out.box.ext hE, H5.out.res.ext hE, H5.out.ref.ext hE, H5.out.bd, H5.out.fq, H5.out.fp⟩
      clear cC5 zC5 lC5
      clear hE C5
      go_wp2_with fail
      go_roundw
      case rel => exact ⟨k + 1, F', M', a4, c4, a4', c4', rfl, by omega, by go_num, by rw [HSU.out]; exact H6⟩
      case measure => simp [intOf]; omega
    · obtain rfl : k = l.length := by omega
      rw [List.take_length] at hh
      obtain ⟨N, hN⟩ : ∃ N, (NA.new en m).acts l = N := ⟨_, rfl⟩
      rw [hN] at hh
      have HNN := Lib.hid hN
      have HBX := Lib.hid hh.out.box
      have HRS := Lib.hid hh.out.res
      clear hN
      obtain ⟨cHBX, zHBX⟩ := HBX.out.reads
      have lHBX := HBX.out.lt
      obtain ⟨cHRS, zHRS⟩ := HRS.out.reads
      have lHRS := HRS.out.lt
      go_wp2_with fail
      have hE0 : Keeps NoB wr wr.drew := (Keeps.refl _ _).drew
      refine wp_region_plan [(0, 0), (3, 1), (0, 2), (0, 3)] [] [4, 5] [4, 5] (ClsE wr) (by kernel_rfl) (by kernel_rfl) (by kernel_rfl) rfl rfl (ClsE.of hE0) (fun _ _ _ d _ h => by cases d <;> exact h) ?_; simp only [planL, List.getElem?_toArray, List.getElem?_cons_succ, List.getElem?_cons_zero]
      refine plan_pure rfl (fun K hK => quiet_move' _ rfl (hK _ ?_)); clear hK K; simp only [Act.put, Act.eval, Array.getD_eq_getD_getElem?, List.getElem?_toArray, List.getElem?_cons_zero, List.getElem?_cons_succ, Option.getD_some, List.setIfInBounds_toArray, List.set_cons_zero, List.set_cons_succ]
      refine plan_exact rfl (fun K hK => quiet_runX (v := ?_) ?_ (hK _ ?_)); rotate_left; (go_simp <;> with_reducible rfl); clear hK K; simp only [Act.put, List.setIfInBounds_toArray, List.set_cons_zero, List.set_cons_succ]
      refine plan_pure rfl (fun K hK => quiet_move' _ rfl (hK _ ?_)); clear hK K; simp only [Act.put, Act.eval, Array.getD_eq_getD_getElem?, List.getElem?_toArray, List.getElem?_cons_zero, List.getElem?_cons_succ, Option.getD_some, List.setIfInBounds_toArray, List.set_cons_zero, List.set_cons_succ]
      refine plan_pure rfl (fun K hK => quiet_assign' _ rfl (hK _ ?_)); clear hK K; simp only [Act.put, Act.eval, Array.getD_eq_getD_getElem?, List.getElem?_toArray, List.getElem?_cons_zero, List.getElem?_cons_succ, Option.getD_some, List.setIfInBounds_toArray, List.set_cons_zero, List.set_cons_succ]
      refine plan_nil ?_; simp only [tailL, List.filterMap_cons, List.filterMap_nil, List.getElem?_toArray, List.getElem?_cons_succ, List.getElem?_cons_zero]; change wpList _ _ _ (_ :: _ :: []) _ _
      go_wp2_with fail
      clear cHBX zHBX lHBX cHRS zHRS lHRS
      have r1 := (((((HRS.out.set 0 (.int .i64 (N.ends : Int))).set 1 (.int .i64 (N.most : Int))).set 2 (.int .i64 (N.came : Int))).set 3 (.slice a1 N.l.length c1)).set 4 (.slice a1' N.downs.length c1')).reads.1
      dsimp only [List.set_cons_zero, List.set_cons_succ] at r1
      have hfin : Keeps (OneB p) wr ((((((wr.setCell ⟨p, 0, none⟩ (.int .i64 (N.ends : Int))).setCell ⟨p, 1, none⟩ (.int .i64 (N.most : Int))).setCell ⟨p, 2, none⟩ (.int .i64 (N.came : Int))).setCell ⟨p, 3, none⟩ (.slice a1 N.l.length c1)).setCell ⟨p, 4, none⟩ (.slice a1' N.downs.length c1')).drew) := ((((((Keeps.refl _ wr).setOne _ _).setOne _ _).setOne _ _).setOne _ _).setOne _ _).drew
      have hfp := hh.out.fp
      have hbase := hh.out.rig.base p hfp.2
      refine bodyPost_ret (v := .tuple #[.pointer (some ⟨b, 0, none⟩), .agg #[.int .i64 (N.ends : Int), .int .i64 (N.most : Int), .int .i64 (N.came : Int), .slice a1 N.l.length c1, .slice a1' N.downs.length c1'], .bool true]) (by simp [results, Try.results16, go_sem, r1]) rfl ?_
      unfold PlayedPost
      rw [HNN.out]
      exact ⟨F, M, b, _, rfl, ⟨hh.out.rig.net.keeps hfin (fun k hk h => by unfold OneB at h; subst h; exact hfp.1 hk) (fun k hk h => by unfold OneB at h; subst h; exact hfp.2), hh.out.rig.base, hh.out.rig.E.then hfin (fun i hi h => by unfold OneB at h; omega)⟩,
        hh.out.ref.go hfin (fun k hk h => by unfold OneB at h; subst h; exact hfp.2) (fun k hk => .inl hk), hh.out.bd⟩
end Go.Proofs.Ytdiogipdcpiffaa
