/- The walk of NetLinks: it returns true, and no old block turns. Conditions: the calls lie as 'Acts' says. -/
import Derived.Test.YtdiogipdcpiffaaNPlayed
set_option linter.unusedVariables false
set_option maxHeartbeats 400000
set_option maxRecDepth 10000
namespace Go.Proofs.Ytdiogipdcpiffaa
open Go.RowKit

theorem ron_len {A : Nat → Prop} (w : World) (v : Value) (N : NA) (f t : Int) (h : RefV w A v N) (he64 : N.ends ≤ 64) (hl : N.l.length ≤ 4096) (hA : ∀ k, A k → k < w.heap.size) :
    Calls Try.prog 20 #[v, .int .i64 f, .int .i64 t] w fun e w' => ∃ a c z, e = .returned (.tuple #[.slice a (N.lenR f t) c, .int .i64 z]) ∧ Ext w w' := by
  unfold NA.lenR
  cases h0 : N.link f t with
  | true =>
    rw [if_pos rfl]
    refine (ron_any w v N f t h h0 he64 hl hA).mono ?_
    rintro e w' ⟨v', rfl, hw, hE⟩
    obtain ⟨a, c, rfl⟩ := hw.len
    exact ⟨a, c, 0, rfl, hE⟩
  | false =>
    rw [if_neg (by decide)]
    exact (ron_arg w v N f t h h0 he64).mono fun e w' ⟨he, hE⟩ => ⟨none, 0, 2, he, hE⟩
theorem links_few {A : Nat → Prop} (w : World) (v : Value) (l : List Ac) (f t : Int) (h : Acts w A v l) (hn : l.length ≤ 9223372036854775807) (hb : ∀ x ∈ l, x.bytes.length ≤ 9223372036854775807) (hf : fewOf l 30 = false) :
    Calls Try.prog 5 #[v, .int .i64 f, .int .i64 t] w fun e w' => e = .returned (.bool true) ∧ Ext w w' := by
  go_enter Try.func5, Try.ntmps5
  go_wp2_with fail
  refine (few_any w v l 30 h hn hb).mono ?_
  rintro e w' ⟨rfl, rfl⟩
  rw [hf]
  go_wp2_with fail
  refine (works_any _).mono ?_
  rintro e w1 ⟨rfl, hE⟩
  have HE := Lib.hid hE
  clear hE
  go_wp2_with fail
  go_ret
  exact ⟨rfl, HE.out⟩
set_option maxHeartbeats 4000000 in
theorem links_in {A : Nat → Prop} (w : World) (v : Value) (l : List Ac) (f t : Int) (h : Acts w A v l) (hok : ∀ x ∈ l, x.ok) (hn : l.length ≤ 9223372036854775807) (hb : ∀ x ∈ l, x.bytes.length ≤ 9223372036854775807) (hf : fewOf l 30 = true) (hA : ∀ k, A k → k < w.heap.size) (if64 : I64 f) (it64 : I64 t) :
    Calls Try.prog 5 #[v, .int .i64 f, .int .i64 t] w fun e w' => e = .returned (.bool true) ∧ Ext w w' := by
  obtain ⟨hs, hl⟩ := few_spec hf
  have HS := Lib.hid hs
  have HOK := Lib.hid hok
  have HA := Lib.hid hA
  have HV := Lib.hid h
  have HF := Lib.hid if64
  have HT := Lib.hid it64
  clear hs hok hA if64 it64
  go_enter Try.func5, Try.ntmps5
  go_wp2_with fail
  refine (few_any w v l 30 h hn hb).mono ?_
  rintro e w' ⟨rfl, rfl⟩
  rw [hf]
  clear h hb hf
  go_wp2_with fail
  refine (played_in w 4 20 v l HV.out (by decide) (by decide) (by decide) (by decide) (fun x hx => ⟨HOK.out x hx, HS.out x hx⟩) (by omega) HA.out).mono ?_
  rintro e w1 ⟨F, M, b, v', rfl, hrig, href, hbd⟩
  obtain ⟨N, hN⟩ : ∃ N, (NA.new 4 20).acts l = N := ⟨_, rfl⟩
  rw [hN] at hrig href hbd
  obtain ⟨a, c, a', c', rfl⟩ := href.len
  have HRIG := Lib.hid hrig
  have HREF := Lib.hid href
  have HBD := Lib.hid hbd
  clear hrig href hbd hN
  go_wp2_with fail
  have bx0 := (Box.new w1 41 [.int .i64 (N.ends : Int), .int .i64 (N.most : Int), .int .i64 (N.came : Int), .slice a N.l.length c, .slice a' N.downs.length c'])
  have ex : Ext w1 (w1.alloc (Obj.cells #[.int .i64 (N.ends : Int), .int .i64 (N.most : Int), .int .i64 (N.came : Int), .slice a N.l.length c, .slice a' N.downs.length c'] 41)) := ((Keeps.refl NoB w1).alloc _)
  have sx : (w1.alloc (Obj.cells #[.int .i64 (N.ends : Int), .int .i64 (N.most : Int), .int .i64 (N.came : Int), .slice a N.l.length c, .slice a' N.downs.length c'] 41)).heap.size = w1.heap.size + 1 := by simp
  generalize (w1.alloc (Obj.cells #[.int .i64 (N.ends : Int), .int .i64 (N.most : Int), .int .i64 (N.came : Int), .slice a N.l.length c, .slice a' N.downs.length c'] 41)) = w2 at bx0 ex sx ⊢
  have Sx := Lib.hid sx
  clear sx
  have B0 := Lib.hid bx0
  replace HRIG := Lib.hid (HRIG.out.ext ex)
  replace HREF := Lib.hid (HREF.out.ext ex)
  clear ex bx0
  obtain ⟨A2, hv2, hA2⟩ := HREF.out
  have HV2 := Lib.hid hv2
  have HA2 := Lib.hid hA2
  clear hv2 hA2
  refine (ron_len w2 _ N f t HV2.out HBD.out.e HBD.out.l (fun k hk => (HA2.out k hk).1)).mono ?_
  rintro e w3 ⟨ao, co, zo, rfl, hE⟩
  have h23 := hE.size
  replace HRIG := Lib.hid (HRIG.out.ext hE)
  replace HREF := Lib.hid (HREF.out.ext hE)
  replace B0 := Lib.hid (B0.out.ext hE)
  replace HV2 := Lib.hid (HV2.out.ext hE)
  clear hE
  obtain ⟨cB0, zB0⟩ := B0.out.reads
  have lB0 := B0.out.lt
  go_wp2_with fail
  have hE0 : Keeps NoB w3 w3.drew := (Keeps.refl _ _).drew
  refine wp_region_plan [(0, 0), (0, 1), (0, 2), (0, 3), (0, 4), (0, 6), (0, 7), (2, 5), (0, 8), (0, 9), (0, 10), (0, 11), (0, 12), (0, 13), (1, 15), (0, 16), (0, 17), (2, 14)] [15] [5, 14, 18, 19, 20, 21, 22, 23, 24] [18, 19, 20, 21, 22, 23, 24] (ClsE w3) (by kernel_rfl) (by kernel_rfl) (plan2 (by kernel_rfl)) rfl rfl (ClsE.of hE0) (fun _ _ _ d _ h => by cases d <;> exact h) ?_; simp only [planL, List.getElem?_toArray, List.getElem?_cons_succ, List.getElem?_cons_zero]
  refine plan_pure rfl (fun K hK => quiet_move' _ rfl (hK _ ?_)); clear hK K; simp only [Act.put, Act.eval, Array.getD_eq_getD_getElem?, List.getElem?_toArray, List.getElem?_cons_zero, List.getElem?_cons_succ, Option.getD_some, List.setIfInBounds_toArray, List.set_cons_zero, List.set_cons_succ]
  refine plan_pure rfl (fun K hK => quiet_move' _ rfl (hK _ ?_)); clear hK K; simp only [Act.put, Act.eval, Array.getD_eq_getD_getElem?, List.getElem?_toArray, List.getElem?_cons_zero, List.getElem?_cons_succ, Option.getD_some, List.setIfInBounds_toArray, List.set_cons_zero, List.set_cons_succ]
  first
  | (refine plan_skip rfl ?_; simp only [Act.put, List.setIfInBounds_toArray, List.set_cons_zero, List.set_cons_succ])
  | (refine plan_pure rfl (fun K hK => quiet_move' _ rfl (hK _ ?_)); clear hK K; simp only [Act.put, Act.eval, Array.getD_eq_getD_getElem?, List.getElem?_toArray, List.getElem?_cons_zero, List.getElem?_cons_succ, Option.getD_some, List.setIfInBounds_toArray, List.set_cons_zero, List.set_cons_succ])
  first
  | (refine plan_skip rfl ?_; simp only [Act.put, List.setIfInBounds_toArray, List.set_cons_zero, List.set_cons_succ])
  | (refine plan_pure rfl (fun K hK => quiet_move' _ rfl (hK _ ?_)); clear hK K; simp only [Act.put, Act.eval, Array.getD_eq_getD_getElem?, List.getElem?_toArray, List.getElem?_cons_zero, List.getElem?_cons_succ, Option.getD_some, List.setIfInBounds_toArray, List.set_cons_zero, List.set_cons_succ])
  first
  | (refine plan_skip rfl ?_; simp only [Act.put, List.setIfInBounds_toArray, List.set_cons_zero, List.set_cons_succ])
  | (refine plan_pure rfl (fun K hK => quiet_move' _ rfl (hK _ ?_)); clear hK K; simp only [Act.put, Act.eval, Array.getD_eq_getD_getElem?, List.getElem?_toArray, List.getElem?_cons_zero, List.getElem?_cons_succ, Option.getD_some, List.setIfInBounds_toArray, List.set_cons_zero, List.set_cons_succ])
  first
  | (refine plan_skip rfl ?_; simp only [Act.put, List.setIfInBounds_toArray, List.set_cons_zero, List.set_cons_succ])
  | (refine plan_pure rfl (fun K hK => quiet_move' _ rfl (hK _ ?_)); clear hK K; simp only [Act.put, Act.eval, Array.getD_eq_getD_getElem?, List.getElem?_toArray, List.getElem?_cons_zero, List.getElem?_cons_succ, Option.getD_some, List.setIfInBounds_toArray, List.set_cons_zero, List.set_cons_succ])
  first
  | (refine plan_skip rfl ?_; simp only [Act.put, List.setIfInBounds_toArray, List.set_cons_zero, List.set_cons_succ])
  | (refine plan_pure rfl (fun K hK => quiet_run (v := ?_) (fun W _ => ?_) (hK _ ?_)); rotate_left; (go_simp <;> with_reducible rfl); clear hK K; simp only [Act.put, List.setIfInBounds_toArray, List.set_cons_zero, List.set_cons_succ])
  first
  | (refine plan_skip rfl ?_; simp only [Act.put, List.setIfInBounds_toArray, List.set_cons_zero, List.set_cons_succ])
  | (refine plan_does rfl (fun K hK => ?_))
  go_wp2_with fail
  refine (len_any _ b N f t (HRIG.out.net.ext hE0) _ _ rfl rfl).mono ?_
  rintro e w4 ⟨rfl, hE4⟩
  have hE04 := hE0.ext hE4
  refine hK _ _ ⟨ClsE.of (by assumption), ?_⟩; clear hK K; try simp only [Act.put, List.setIfInBounds_toArray, List.set_cons_zero, List.set_cons_succ]
  first
  | (refine plan_skip rfl ?_; simp only [Act.put, List.setIfInBounds_toArray, List.set_cons_zero, List.set_cons_succ])
  | (refine plan_pure rfl (fun K hK => quiet_run (v := ?_) (fun W _ => ?_) (hK _ ?_)); rotate_left; (go_simp <;> with_reducible rfl); clear hK K; simp only [Act.put, List.setIfInBounds_toArray, List.set_cons_zero, List.set_cons_succ])
  refine plan_pure rfl (fun K hK => quiet_run (v := ?_) (fun W _ => ?_) (hK _ ?_)); rotate_left; (go_simp <;> with_reducible rfl); clear hK K; simp only [Act.put, List.setIfInBounds_toArray, List.set_cons_zero, List.set_cons_succ]
  refine plan_pure rfl (fun K hK => quiet_move' _ rfl (hK _ ?_)); clear hK K; simp only [Act.put, Act.eval, Array.getD_eq_getD_getElem?, List.getElem?_toArray, List.getElem?_cons_zero, List.getElem?_cons_succ, Option.getD_some, List.setIfInBounds_toArray, List.set_cons_zero, List.set_cons_succ]
  first
  | (refine plan_skip rfl ?_; simp only [Act.put, List.setIfInBounds_toArray, List.set_cons_zero, List.set_cons_succ])
  | (refine plan_pure rfl (fun K hK => quiet_move' _ rfl (hK _ ?_)); clear hK K; simp only [Act.put, Act.eval, Array.getD_eq_getD_getElem?, List.getElem?_toArray, List.getElem?_cons_zero, List.getElem?_cons_succ, Option.getD_some, List.setIfInBounds_toArray, List.set_cons_zero, List.set_cons_succ])
  first
  | (refine plan_skip rfl ?_; simp only [Act.put, List.setIfInBounds_toArray, List.set_cons_zero, List.set_cons_succ])
  | (refine plan_pure rfl (fun K hK => quiet_move' _ rfl (hK _ ?_)); clear hK K; simp only [Act.put, Act.eval, Array.getD_eq_getD_getElem?, List.getElem?_toArray, List.getElem?_cons_zero, List.getElem?_cons_succ, Option.getD_some, List.setIfInBounds_toArray, List.set_cons_zero, List.set_cons_succ])
  first
  | (refine plan_skip rfl ?_; simp only [Act.put, List.setIfInBounds_toArray, List.set_cons_zero, List.set_cons_succ])
  | (refine plan_pure rfl (fun K hK => quiet_move' _ rfl (hK _ ?_)); clear hK K; simp only [Act.put, Act.eval, Array.getD_eq_getD_getElem?, List.getElem?_toArray, List.getElem?_cons_zero, List.getElem?_cons_succ, Option.getD_some, List.setIfInBounds_toArray, List.set_cons_zero, List.set_cons_succ])
  first
  | (refine plan_skip rfl ?_; simp only [Act.put, List.setIfInBounds_toArray, List.set_cons_zero, List.set_cons_succ])
  | (refine plan_load rfl (fun K hK => quiet_runE (v := ?_) (fun W => ?_) (hK _ ?_)); rotate_left; (go_simp <;> with_reducible rfl); clear hK K; simp only [Act.put, List.setIfInBounds_toArray, List.set_cons_zero, List.set_cons_succ])
  first
  | (refine plan_skip rfl ?_; simp only [Act.put, List.setIfInBounds_toArray, List.set_cons_zero, List.set_cons_succ])
  | (refine plan_pure rfl (fun K hK => quiet_move' _ rfl (hK _ ?_)); clear hK K; simp only [Act.put, Act.eval, Array.getD_eq_getD_getElem?, List.getElem?_toArray, List.getElem?_cons_zero, List.getElem?_cons_succ, Option.getD_some, List.setIfInBounds_toArray, List.set_cons_zero, List.set_cons_succ])
  first
  | (refine plan_skip rfl ?_; simp only [Act.put, List.setIfInBounds_toArray, List.set_cons_zero, List.set_cons_succ])
  | (refine plan_pure rfl (fun K hK => quiet_move' _ rfl (hK _ ?_)); clear hK K; simp only [Act.put, Act.eval, Array.getD_eq_getD_getElem?, List.getElem?_toArray, List.getElem?_cons_zero, List.getElem?_cons_succ, Option.getD_some, List.setIfInBounds_toArray, List.set_cons_zero, List.set_cons_succ])
  first
  | (refine plan_skip rfl ?_; simp only [Act.put, List.setIfInBounds_toArray, List.set_cons_zero, List.set_cons_succ])
  | (refine plan_does rfl (fun K hK => ?_))
  go_wp2_with fail
  refine (isdown_any _ b N f t (HRIG.out.net.ext hE04) HF.out HT.out).mono ?_
  rintro e w5 ⟨rfl, rfl⟩
  refine hK _ _ ⟨ClsE.of (by assumption), ?_⟩; clear hK K; try simp only [Act.put, List.setIfInBounds_toArray, List.set_cons_zero, List.set_cons_succ]
  refine plan_nil ?_; simp only [tailL, List.filterMap_cons, List.filterMap_nil, List.getElem?_toArray, List.getElem?_cons_succ, List.getElem?_cons_zero]; change wpList _ _ _ (_ :: _ :: _ :: _ :: _ :: _ :: _ :: []) _ _
  go_wp2_with fail
  refine (risdown_any w4 _ N f t (HV2.out.ext hE04) (by have := HBD.out.d; omega) (fun k hk => by have := (HA2.out k hk).1; have := hE04.size; omega)).mono ?_
  rintro e w5 ⟨rfl, hE5⟩
  have hE05 := hE04.ext hE5
  go_wp2_with fail
  refine (works_any _).mono ?_
  rintro e w6 ⟨rfl, hE6⟩
  have hE06 := hE05.ext hE6
  go_wp2_with fail
  have HE6 := Lib.hid hE06
  clear cB0 zB0 lB0
  go_ret
  exact ⟨rfl, HRIG.out.E.ext HE6.out⟩
theorem links_all (v : Value) (l : List Ac) (f t : Int) (w : World) (h : Acts w (Old w) v l) (hok : ∀ x ∈ l, x.ok) (hn : l.length ≤ 9223372036854775807) (hb : ∀ x ∈ l, x.bytes.length ≤ 9223372036854775807) (hf : I64 f) (ht : I64 t) :
    Calls Try.prog 5 #[v, .int .i64 f, .int .i64 t] w fun e w' => e = .returned (.bool true) ∧ Ext w w' := by
  cases hq : fewOf l 30 with
  | false => exact links_few w v l f t h hn hb hq
  | true => exact links_in w v l f t h hok hn hb hq (fun k hk => hk) hf ht
end Go.Proofs.Ytdiogipdcpiffaa
