/- The net's own functions, each by its contract: Down and Drop. Conditions: the net lies as 'NetX' says. -/
import Derived.Test.YtdiogipdcpiffaaNetH
set_option linter.unusedVariables false
set_option maxHeartbeats 400000
set_option maxRecDepth 10000
namespace Go.Proofs.Ytdiogipdcpiffaa
open Go.RowKit

def NA.down (N : NA) (f t : Int) (is : Bool) : NA := { N with downs := (N.downs.filter fun p => decide (p ≠ (f, t))) ++ if is then [(f, t)] else [] }
theorem down_arg {F M : Nat → Prop} (w : World) (b : Nat) (N : NA) (f t : Int) (is : Bool) (h : NetX w F M b N) (hk : (N.endB f && N.endB t) = false) :
    Calls Try.prog 24 #[.pointer (some ⟨b, 0, none⟩), .int .i64 f, .int .i64 t, .bool is] w fun e w' => e = .returned (.int .i64 2) ∧ Ext w w' := by
  have HN := Lib.hid h
  have HK := Lib.hid hk
  clear h hk
  go_enter Try.func24, Try.ntmps24
  go_wp2_with fail
  refine (none_net w b N HN.out).mono ?_
  rintro e w' ⟨rfl, rfl⟩
  go_wp2_with fail
  have bx0 := (Box.new w 3 [.int .i64 f, .int .i64 t])
  have ex : Ext w (w.alloc (Obj.cells #[.int .i64 f, .int .i64 t] 3)) := ((Keeps.refl NoB w).alloc _)
  have sx : (w.alloc (Obj.cells #[.int .i64 f, .int .i64 t] 3)).heap.size = w.heap.size + 1 := by simp
  generalize (w.alloc (Obj.cells #[.int .i64 f, .int .i64 t] 3)) = w0 at bx0 ex sx ⊢
  have Sx := Lib.hid sx
  clear sx
  have HE := Lib.hid ex
  refine (end_any w0 w.heap.size b N f t bx0 (HN.out.ext ex)).mono ?_
  rintro e w1 ⟨rfl, hE⟩
  have HE1 := Lib.hid (HE.out.ext hE)
  rw [HK.out]
  clear ex bx0 hE
  go_wp2_with fail
  go_ret
  exact ⟨rfl, HE1.out⟩
theorem down_ok {F M : Nat → Prop} (w : World) (b : Nat) (N : NA) (f t : Int) (is : Bool) (h : NetX w F M b N) (hk : (N.endB f && N.endB t) = true) (hf : I64 f) (ht : I64 t) :
    Calls Try.prog 24 #[.pointer (some ⟨b, 0, none⟩), .int .i64 f, .int .i64 t, .bool is] w fun e w' => e = .returned (.int .i64 0) ∧ NetX w' F M b (N.down f t is) ∧ Step w w' F M F M := by
  have HN := Lib.hid h
  have HK := Lib.hid hk
  clear h hk
  go_enter Try.func24, Try.ntmps24
  go_wp2_with fail
  refine (none_net w b N HN.out).mono ?_
  rintro e w' ⟨rfl, rfl⟩
  go_wp2_with fail
  have bx0 := (Box.new w 3 [.int .i64 f, .int .i64 t])
  have ex : Ext w (w.alloc (Obj.cells #[.int .i64 f, .int .i64 t] 3)) := ((Keeps.refl NoB w).alloc _)
  have sx : (w.alloc (Obj.cells #[.int .i64 f, .int .i64 t] 3)).heap.size = w.heap.size + 1 := by simp
  generalize (w.alloc (Obj.cells #[.int .i64 f, .int .i64 t] 3)) = w0 at bx0 ex sx ⊢
  have Sx := Lib.hid sx
  clear sx
  have HE := Lib.hid ex
  refine (end_any w0 w.heap.size b N f t bx0 (HN.out.ext ex)).mono ?_
  rintro e w1 ⟨rfl, hE⟩
  have HE1 := Lib.hid (HE.out.ext hE)
  rw [HK.out]
  clear ex bx0 hE
  obtain ⟨A, m, v, cs, hat⟩ := HN.out.ext HE1.out
  have HAT := Lib.hid hat
  have HB := Lib.hid hat.box
  obtain ⟨av, cv, rfl⟩ := hat.win.len
  obtain ⟨w2, hr2, hs2, hk2⟩ := run_del hat.dn hf ht 0
  have hbm := hat.bm
  have fin : ∀ (w3 : World) (D : List (Int × Int)), SetAt w3 m D → Keeps (OneB m) w1 w3 → NetX w3 F M b { N with downs := D } ∧ Step w w3 F M F M := fun w3 D hs hk => by
    refine ⟨⟨A, m, _, cs, ⟨hat.box.keeps hk (fun h => hbm h), hat.win.keeps hk (fun g hg h => (hat.fv g hg).2.2 h), hat.row.mono (fun c p hc => hc.keeps hk fun k hk h => (hat.fa k hk).2 (hat.fM k (by obtain rfl : k = m := h; exact hat.fm))), hs, hat.fb, hat.fm, hat.bm, hat.fv, fun k hk' => ⟨Nat.lt_of_lt_of_le (hat.fa k hk').1 hk.size, (hat.fa k hk').2⟩, hat.fM, fun k hk' => Nat.lt_of_lt_of_le (hat.lt k hk') hk.size, hat.e1, hat.m1, hat.ll, hat.ok⟩⟩, ?_⟩
    exact ⟨(Ext.keeps HE1.out : Keeps F w w1).then hk (fun i hi h => by obtain rfl : i = m := h; exact hat.fm), fun k h => .inl h, fun k h => .inl h, fun k h => h⟩
  have FIN := Lib.hid fin
  have HS2 := Lib.hid hs2
  have HK2 := Lib.hid hk2
  have HB2 := Lib.hid (hat.box.keeps hk2 (fun h => hbm h))
  clear fin hat
  cases is with
  | false =>
    obtain ⟨cHB, zHB⟩ := HB.out.reads
    have lHB := HB.out.lt
    clear hs2 hk2
    go_wp2_with fail
    go_ret
    exact ⟨rfl, by
      have := FIN.out _ _ HS2.out HK2.out
      simpa [NA.down] using this⟩
  | true =>
    obtain ⟨w3, hr3, hs3, hk3⟩ := run_put hs2 hf ht (by simp)
    have HS3 := Lib.hid hs3
    have HK3 := Lib.hid (hk2.trans hk3)
    clear hs2 hk2 hs3 hk3
    obtain ⟨cHB, zHB⟩ := HB.out.reads
    have lHB := HB.out.lt
    obtain ⟨cHB2, zHB2⟩ := HB2.out.reads
    have lHB2 := HB2.out.lt
    go_wp2_with fail
    go_ret
    exact ⟨rfl, FIN.out _ _ HS3.out HK3.out⟩
def NA.pickErr (N : NA) (f t : Int) : Nat := if N.link f t = false then 2 else if N.on f t = [] then 5 else 0
theorem pick_err {F M : Nat → Prop} (w : World) (b : Nat) (N : NA) (f t p : Int) (h : NetX w F M b N) (k : Nat) (hk : N.pickErr f t = k) (h0 : k ≠ 0) :
    Calls Try.prog 39 #[.pointer (some ⟨b, 0, none⟩), .int .i64 f, .int .i64 t, .int .i64 p] w fun e w' => e = .returned (.tuple #[.int .i64 0, .int .i64 (k : Int)]) ∧ Ext w w' := by
  unfold NA.pickErr at hk
  by_cases h1 : N.link f t = false
  · rw [if_pos h1] at hk
    subst hk
    exact pick_arg w b N f t p h h1
  · rw [if_neg h1] at hk
    have h1' : N.link f t = true := by simpa using h1
    by_cases h2 : N.on f t = []
    · rw [if_pos h2] at hk
      subst hk
      exact pick_none w b N f t p h h1' h2
    · rw [if_neg h2] at hk
      exact absurd hk.symm h0
theorem NA.pick_zero {N : NA} {f t : Int} (h : N.pickErr f t = 0) : N.link f t = true ∧ N.on f t ≠ [] := by
  unfold NA.pickErr at h
  split at h
  · cases h
  rename_i h1
  split at h
  · cases h
  rename_i h2
  exact ⟨by simpa using h1, h2⟩
theorem drop_err {F M : Nat → Prop} (w : World) (b : Nat) (N : NA) (f t p : Int) (h : NetX w F M b N) (k : Nat) (hk : N.pickErr f t = k) (h0 : k ≠ 0) :
    Calls Try.prog 13 #[.pointer (some ⟨b, 0, none⟩), .int .i64 f, .int .i64 t, .int .i64 p] w fun e w' => e = .returned (.tuple #[.int .i64 0, .int .i64 (k : Int)]) ∧ Ext w w' := by
  have HP := Lib.hid (pick_err w b N f t p h k hk h0)
  have hz : ((k : Int) != 0) = true := by rw [bne_iff_ne]; omega
  clear h hk
  go_enter Try.func13, Try.ntmps13
  go_wp2_with fail
  refine HP.out.mono ?_
  rintro e w1 ⟨rfl, hE⟩
  have HE := Lib.hid hE
  clear hE
  go_wp2_with fail
  go_ret2
  exact ⟨rfl, HE.out⟩
def NA.without (N : NA) (i : Nat) : NA := { N with l := N.l.take i ++ N.l.drop (i + 1) }
set_option maxHeartbeats 2000000 in
theorem drop_ok {F M : Nat → Prop} (w : World) (b : Nat) (N : NA) (f t p : Int) (h : NetX w F M b N) (hp : I64 p) (hk : N.pickErr f t = 0) (i : Nat) (x : Pc) (hi : pickOf p (N.on f t) = i) (hx : N.l[i]? = some x) :
    Calls Try.prog 13 #[.pointer (some ⟨b, 0, none⟩), .int .i64 f, .int .i64 t, .int .i64 p] w fun e w' => ∃ F' M', e = .returned (.tuple #[.int .i64 (x.num : Int), .int .i64 0]) ∧ NetX w' F' M' b (N.without i) ∧ Step w w' F M F' M' := by
  obtain ⟨hl, ho⟩ := NA.pick_zero hk
  have HP := Lib.hid (pick_some w b N f t p h hl hp ho)
  have HN := Lib.hid h
  have HI := Lib.hid hi
  have hmo := h.m1
  have hll := h.ll
  have hil : i < N.l.length := (List.getElem?_eq_some_iff.1 hx).1
  have HX := Lib.hid hx
  clear h hk hl ho hi hx
  go_enter Try.func13, Try.ntmps13
  go_wp2_with fail
  refine HP.out.mono ?_
  rintro e w1 ⟨rfl, hE⟩
  rw [HI.out]
  have HE1 := Lib.hid hE
  clear hE
  obtain ⟨A, m, vs, cs, hat⟩ := HN.out.ext HE1.out
  obtain ⟨g, o, cp, rfl, hg1, hg2, hg3, hg4⟩ := hat.win.form (by omega)
  have HAT := Lib.hid hat
  have HB := Lib.hid hat.box
  have hbelow := HN.out.below
  have hc0 : w1.cell? ⟨g, o + i * 4, none⟩ = some (.int .i64 (x.num : Int)) := by
    obtain ⟨c, k1, k2, k3⟩ := hat.row.get i hil
    have hxi : N.l[i] = x := by have := HX.out; rw [List.getElem?_eq_getElem hil] at this; injection this
    obtain ⟨bv, hc, -⟩ := k2
    have := k3 0 (by decide)
    rw [hc, hxi] at this
    exact hg4 _ _ (by simpa using this)
  have hi1 : IntKind.i64.wrap ((i : Int) + 1) = (i : Int) + 1 := IntWalk.i64_in _ (by omega)
  have hi2 : 0 ≤ (i : Int) + 1 := by omega
  have hi3 : ((i : Int) + 1).toNat = i + 1 := by omega
  have hicp : i ≤ cp := by omega
  have hicp2 : i + 1 ≤ N.l.length := by omega
  have hi4 : (i : Int) + 1 ≤ (N.l.length : Int) := by omega
  have w1' := hat.win.take i (by omega)
  have w2' := hat.win.drop' (i + 1) (by omega)
  obtain ⟨sp, hsp⟩ : ∃ sp : Option Addr, (if cp = i + 1 then some (⟨g, o, none⟩ : Addr) else some ⟨g, o + (i + 1) * 4, none⟩) = sp := ⟨_, rfl⟩
  rw [hsp] at w2'
  have HW1 := Lib.hid w1'
  have HW2 := Lib.hid w2'
  have HR1 := Lib.hid (hat.row.take i (by omega))
  have HR2 := Lib.hid (hat.row.drop (i + 1) (by omega))
  clear hat hg4 w1' w2'
  obtain ⟨cHB, zHB⟩ := HB.out.reads
  have lHB := HB.out.lt
  go_wp2_with fail
  have hE0 : Keeps NoB w1 w1.drew := (Keeps.refl _ _).drew
  refine wp_region_plan [(0, 0), (0, 1), (0, 2), (0, 3), (3, 4), (0, 5), (0, 6), (0, 7), (0, 8), (0, 9), (3, 10), (0, 11), (0, 12), (0, 13)] [] [14, 15, 16, 17, 18] [14, 15, 16, 17, 18] (ClsE w1) (by kernel_rfl) (by kernel_rfl) (by kernel_rfl) rfl rfl (ClsE.of hE0) (fun _ _ _ d _ h => by cases d <;> exact h) ?_; simp only [planL, List.getElem?_toArray, List.getElem?_cons_succ, List.getElem?_cons_zero]
  refine plan_pure rfl (fun K hK => quiet_move' _ rfl (hK _ ?_)); clear hK K; simp only [Act.put, Act.eval, Array.getD_eq_getD_getElem?, List.getElem?_toArray, List.getElem?_cons_zero, Option.getD_some, List.setIfInBounds_toArray, List.set_cons_zero, List.set_cons_succ]
  refine plan_pure rfl (fun K hK => quiet_move' _ rfl (hK _ ?_)); clear hK K; simp only [Act.put, Act.eval, Array.getD_eq_getD_getElem?, List.getElem?_toArray, List.getElem?_cons_zero, Option.getD_some, List.setIfInBounds_toArray, List.set_cons_zero, List.set_cons_succ]
  refine plan_pure rfl (fun K hK => quiet_run (v := ?_) (fun W _ => ?_) (hK _ ?_)); rotate_left; (go_simp <;> with_reducible rfl); clear hK K; simp only [Act.put, List.setIfInBounds_toArray, List.set_cons_zero, List.set_cons_succ]
  refine plan_pure rfl (fun K hK => quiet_run (v := ?_) (fun W _ => ?_) (hK _ ?_)); rotate_left; (go_simp <;> with_reducible rfl); clear hK K; simp only [Act.put, List.setIfInBounds_toArray, List.set_cons_zero, List.set_cons_succ]
  refine plan_exact rfl (fun K hK => quiet_runX (v := ?_) ?_ (hK _ ?_)); rotate_left; (go_simp <;> with_reducible rfl); clear hK K; simp only [Act.put, List.setIfInBounds_toArray, List.set_cons_zero, List.set_cons_succ]
  refine plan_pure rfl (fun K hK => quiet_move' _ rfl (hK _ ?_)); clear hK K; simp only [Act.put, Act.eval, Array.getD_eq_getD_getElem?, List.getElem?_toArray, List.getElem?_cons_zero, List.getElem?_cons_succ, Option.getD_some, List.setIfInBounds_toArray, List.set_cons_zero, List.set_cons_succ]
  refine plan_pure rfl (fun K hK => quiet_run (v := ?_) (fun W _ => ?_) (hK _ ?_)); rotate_left; (go_simp <;> with_reducible rfl); clear hK K; simp only [Act.put, List.setIfInBounds_toArray, List.set_cons_zero, List.set_cons_succ]
  refine plan_pure rfl (fun K hK => quiet_move' _ rfl (hK _ ?_)); clear hK K; simp only [Act.put, Act.eval, Array.getD_eq_getD_getElem?, List.getElem?_toArray, List.getElem?_cons_zero, Option.getD_some, List.setIfInBounds_toArray, List.set_cons_zero, List.set_cons_succ]
  refine plan_pure rfl (fun K hK => quiet_run (v := ?_) (fun W _ => ?_) (hK _ ?_)); rotate_left; (go_simp <;> with_reducible rfl); clear hK K; simp only [Act.put, List.setIfInBounds_toArray, List.set_cons_zero, List.set_cons_succ]
  refine plan_pure rfl (fun K hK => quiet_run (v := ?_) (fun W _ => ?_) (hK _ ?_)); rotate_left; (go_simp <;> with_reducible rfl); clear hK K; simp only [Act.put, List.setIfInBounds_toArray, List.set_cons_zero, List.set_cons_succ]
  refine plan_exact rfl (fun K hK => quiet_runX (v := ?_) ?_ (hK _ ?_)); rotate_left; (go_simp <;> with_reducible rfl); clear hK K; simp only [Act.put, List.setIfInBounds_toArray, List.set_cons_zero, List.set_cons_succ]
  refine plan_pure rfl (fun K hK => quiet_move' _ rfl (hK _ ?_)); clear hK K; simp only [Act.put, Act.eval, Array.getD_eq_getD_getElem?, List.getElem?_toArray, List.getElem?_cons_zero, List.getElem?_cons_succ, Option.getD_some, List.setIfInBounds_toArray, List.set_cons_zero, List.set_cons_succ]
  refine plan_pure rfl (fun K hK => quiet_run (v := ?_) (fun W _ => ?_) (hK _ ?_)); rotate_left; (go_simp <;> with_reducible rfl); clear hK K; simp only [Act.put, List.setIfInBounds_toArray, List.set_cons_zero, List.set_cons_succ]
  refine plan_pure rfl (fun K hK => quiet_run (v := ?_) (fun W _ => ?_) (hK _ ?_)); rotate_left; (go_simp <;> with_reducible rfl); clear hK K; simp only [Act.put, List.setIfInBounds_toArray, List.set_cons_zero, List.set_cons_succ]
  refine plan_nil ?_; simp only [tailL, List.filterMap_cons, List.filterMap_nil, List.getElem?_toArray, List.getElem?_cons_succ, List.getElem?_cons_zero]; change wpList _ _ _ (_ :: _ :: _ :: _ :: _ :: []) _ _
  clear cHB zHB lHB
  have hE2 : Ext w1 ((w1.alloc (Obj.cells #[.slice (some ⟨g, o, none⟩) i cp, .slice sp (N.l.length - (i + 1)) (cp - (i + 1))] 69)).drew) := ((Keeps.refl NoB w1).alloc _).drew
  have by0 : Box ((w1.alloc (Obj.cells #[.slice (some ⟨g, o, none⟩) i cp, .slice sp (N.l.length - (i + 1)) (cp - (i + 1))] 69)).drew) w1.heap.size 69 [.slice (some ⟨g, o, none⟩) i cp, .slice sp (N.l.length - (i + 1)) (cp - (i + 1))] := Box.new w1 69 [.slice (some ⟨g, o, none⟩) i cp, .slice sp (N.l.length - (i + 1)) (cp - (i + 1))]
  have hlt1 : (N.l.take i).length = i := by rw [List.length_take]; omega
  have hlt2 : (N.l.drop (i + 1)).length = N.l.length - (i + 1) := List.length_drop
  have HQ := Lib.hid by0
  have HE2 := Lib.hid hE2
  have HL1 := Lib.hid hlt1
  have HL2 := Lib.hid hlt2
  clear by0 hE2 hlt1 hlt2
  go_wp2_with fail
  refine (concat_ways (A := A) _ w1.heap.size _ _ _ _ (N.l.take i) (N.l.drop (i + 1)) HQ.out (by rw [HL1.out]; exact HW1.out.ext HE2.out) (HR1.out.mono fun c p hc => hc.keeps HE2.out fun _ _ => noB _) (by rw [HL2.out]; exact HW2.out.ext HE2.out) (HR2.out.mono fun c p hc => hc.keeps HE2.out fun _ _ => noB _) (by rw [HL1.out, HL2.out]; omega) (fun k hk => by have := (HAT.out.fa k hk).1; have := HE2.out.size; omega)).mono ?_
  rintro e w3 ⟨v3, cs3, rfl, hw3, hr3, hE3⟩
  have HE3 := Lib.hid (HE2.out.ext hE3)
  obtain ⟨n3, hn3⟩ : ∃ n3, (N.l.take i ++ N.l.drop (i + 1)).length = n3 := ⟨_, rfl⟩
  rw [hn3] at hw3
  obtain ⟨a3, c3, rfl⟩ := hw3.len
  have HW3 := Lib.hid hw3
  have HR3 := Lib.hid hr3
  have HN3 := Lib.hid hn3
  clear hn3
  have HB3 := Lib.hid (HB.out.ext HE3.out)
  have h2s := HE2.out.size
  clear hw3 hr3 hE3
  obtain ⟨cHB3, zHB3⟩ := HB3.out.reads
  have lHB3 := HB3.out.lt
  go_wp2_with fail
  clear cHB3 zHB3 lHB3
  have hkb : Keeps (OneB b) w3 (w3.setCell ⟨b, 3, none⟩ (.slice a3 n3 c3)) := (Keeps.refl _ w3).setOne _ _
  have q1 := HB3.out.set 3 (.slice a3 n3 c3)
  dsimp only [List.set_cons_zero, List.set_cons_succ] at q1
  have hat := HAT.out
  have hE3 := HE3.out
  have hbel := HN.out.below
  have hs1 := HE1.out.size
  have hs3 := hE3.size
  generalize (w3.setCell ⟨b, 3, none⟩ (.slice a3 n3 c3)) = w4 at hkb q1 ⊢
  have hs4 := hkb.size
  have hown : ∀ g, Value.ownBlock (.slice a3 n3 c3) = some g → w1.heap.size ≤ g ∧ g < w3.heap.size := fun g hg => by
    have := HW3.out.block g hg
    exact ⟨by simp at this; omega, this.2⟩
  have hmm := hbel m (hat.fM m hat.fm)
  have hbb := hbel b (hat.fM b hat.fb)
  go_ret2
  refine ⟨fun k => F k ∨ Value.ownBlock (.slice a3 n3 c3) = some k, fun k => M k ∨ Value.ownBlock (.slice a3 n3 c3) = some k, rfl, ⟨A, m, .slice a3 n3 c3, cs3, ?_⟩, ?_⟩
  · refine ⟨q1, ?_, ?_, (hat.dn.ext hE3).keeps hkb (fun h => hat.bm h.symm), .inl hat.fb, .inl hat.fm, hat.bm, fun g hg => ⟨.inr hg, by have := hown g hg; omega, by have := hown g hg; omega⟩, ?_, ?_, ?_, hat.e1, hat.m1, ?_, ?_⟩
    · show Win w4 0 4 _ (N.l.take i ++ N.l.drop (i + 1)).length _
      rw [HN3.out]
      exact (HW3.out.keeps hkb (fun g hg h => by have := hown g hg; have h9 : g = b := h; omega)).mono (Nat.zero_le _)
    · exact HR3.out.mono fun c p hc => hc.keeps hkb (fun k hk h => by
        obtain rfl : k = b := h
        exact (hat.fa _ hk).2 (hat.fM _ hat.fb))
    · intro k hk
      refine ⟨by have := (hat.fa k hk).1; omega, fun hm => ?_⟩
      rcases hm with hm | hm
      · exact (hat.fa k hk).2 hm
      · have := hown k hm; have := (hat.fa k hk).1; omega
    · intro k hk
      rcases hk with hk | hk
      · exact .inl (hat.fM k hk)
      · exact .inr hk
    · intro k hk
      rcases hk with hk | hk
      · have := hbel k hk; omega
      · have := (hown k hk).2; omega
    · show (N.l.take i ++ N.l.drop (i + 1)).length ≤ N.most
      rw [List.length_append, List.length_take, List.length_drop]; omega
    · intro p hp
      rcases List.mem_append.1 hp with hp | hp
      · exact hat.ok p (List.mem_of_mem_take hp)
      · exact hat.ok p (List.mem_of_mem_drop hp)
  · refine ⟨?_, ?_, ?_, fun k hk => .inl hk⟩
    · exact ((Ext.keeps HE1.out : Keeps F w w1).ext hE3).then hkb (fun i hi h => by obtain rfl : i = b := h; exact hat.fb)
    · intro k hk
      rcases hk with hk | hk
      · exact .inl hk
      · have := hown k hk; exact .inr (by omega)
    · intro k hk
      rcases hk with hk | hk
      · exact .inl hk
      · have := hown k hk; exact .inr (by omega)
end Go.Proofs.Ytdiogipdcpiffaa
