/- Texts CL, Del, CE, CF, CH, CJ, one behind the other. Conditions: as each says. -/
import Derived.Test.YtoadjbgpfihoiaaGreatDoorFuZE
import Derived.RecoverIn
set_option linter.unusedVariables false
set_option linter.unusedSimpArgs false
set_option maxHeartbeats 8000000
set_option maxRecDepth 100000
namespace Go.Proofs.YtoadjbgpfihoiaaGreatDoor
open Go.RowKit
def Bx.set (x : Bx) (k : Int) (v : Bool) : Bx := ⟨if k = 0 then v else x.a, if k = 1 then v else x.b, if k = 2 then v else x.c, if k = 3 then v else x.d, if k = 4 then v else x.e, if k = 5 then v else x.f, if k = 6 then v else x.g, if k = 7 then v else x.h, if k = 8 then v else x.i, if k = 9 then v else x.j, if k = 10 then v else x.k, if k = 11 then v else x.l, if k = 12 then v else x.m, if k = 13 then v else x.n, if k = 14 then v else x.o, if k = 15 then v else x.p⟩
def Cl.welcome (c : Cl) (x : Sd) : Cl × Bool × Int := if 0 ≤ c.m.next ∧ c.m.next ≠ x.index then (c, false, 381) else ({ c with m := { c.m with token := x.token, next := x.index }, ty := Bx.none, he := Bx.none, gr := true }, false, 0)
def Cl.left (c : Cl) (x : Sd) : List En := if x.e.kind = 4 ∧ x.e.member = c.member then c.waits.filter (fun y => !decide (y.number ≤ x.e.number)) else c.waits
def Cl.line (c : Cl) (x : Sd) : Cl × Bool × Int := if c.gr = false ∨ x.index ≠ c.m.next then (c, false, 381) else ({ c with m := ⟨x.token, c.m.lines ++ [x.e], c.m.next + 1⟩, waits := c.left x }, true, 0)
def Cl.hear (c : Cl) (x : Sd) : Cl × Bool × Int :=
 if x.kind = 8 then c.welcome x else if x.kind = 9 then c.line x else if x.kind = 10 then ({ c with ty := c.ty.set x.member x.is }, false, 0) else if x.kind = 11 then ({ c with he := c.he.set x.member x.is }, false, 0)
 else if x.kind = 12 then ({ c with on := false, why := x.number, bytes := [] }, false, 0) else (c, false, 372)
abbrev Cl.cut (c : Cl) (n : Nat) : Cl := { c with bytes := c.bytes.drop n }
def hearAll : Nat → Cl → Nat → Cl × Nat × Int
 | 0, c, n => (c, n, 0)
 | f + 1, c, n =>
   if c.on = false then (c, n, 0)
   else if (readL c.bytes).2.2 ≠ 0 then (c, n, (readL c.bytes).2.2)
   else if (readL c.bytes).2.1 = 0 then (c, n, 0)
   else if ((c.cut (readL c.bytes).2.1).hear (readL c.bytes).1).2.2 ≠ 0 then (((c.cut (readL c.bytes).2.1).hear (readL c.bytes).1).1, n, ((c.cut (readL c.bytes).2.1).hear (readL c.bytes).1).2.2)
   else hearAll f ((c.cut (readL c.bytes).2.1).hear (readL c.bytes).1).1 (if ((c.cut (readL c.bytes).2.1).hear (readL c.bytes).1).2.1 then n + 1 else n)
abbrev Cl.ended (c : Cl) (e : Int) : Cl := { c with on := false, why := e, bytes := [] }
theorem hear_bytes (c : Cl) (x : Sd) : (c.hear x).1.bytes = c.bytes ∨ (c.hear x).1.bytes = [] := by
 unfold Cl.hear Cl.welcome Cl.line; split
 · split <;> exact .inl rfl
 split
 · split <;> exact .inl rfl
 split
 · exact .inl rfl
 split
 · exact .inl rfl
 split
 · exact .inr rfl
 exact .inl rfl
theorem hear_len (c : Cl) (x : Sd) : (c.hear x).1.bytes.length ≤ c.bytes.length := by
 rcases hear_bytes c x with h | h <;> rw [h] <;> simp
theorem cut_len (c : Cl) (h : (readL c.bytes).2.1 ≠ 0) : (c.cut (readL c.bytes).2.1).bytes.length < c.bytes.length := by
 have := readL_n c.bytes; show (c.bytes.drop _).length < _
 rw [List.length_drop]; omega
theorem hearAll_more : ∀ (f g : Nat) (c : Cl) (n : Nat), c.bytes.length < f → c.bytes.length < g → hearAll f c n = hearAll g c n
 | 0, g, c, n, h, _ => by omega
 | f + 1, 0, c, n, _, h => by omega
 | f + 1, g + 1, c, n, hf, hg => by
   unfold hearAll; split
   · rfl
   split
   · rfl
   split
   · rfl
   rename_i h0
   split
   · rfl
   have h1 := cut_len c h0; have h2 := hear_len (c.cut (readL c.bytes).2.1) (readL c.bytes).1; exact hearAll_more f g _ _ (by omega) (by omega)
def Cl.all (c : Cl) (n : Nat) : Cl × Nat × Int := hearAll (c.bytes.length + 1) c n
theorem all_step (c : Cl) (n : Nat) : c.all n =
 if c.on = false then (c, n, 0)
 else if (readL c.bytes).2.2 ≠ 0 then (c, n, (readL c.bytes).2.2)
 else if (readL c.bytes).2.1 = 0 then (c, n, 0)
 else if ((c.cut (readL c.bytes).2.1).hear (readL c.bytes).1).2.2 ≠ 0 then (((c.cut (readL c.bytes).2.1).hear (readL c.bytes).1).1, n, ((c.cut (readL c.bytes).2.1).hear (readL c.bytes).1).2.2)
 else ((c.cut (readL c.bytes).2.1).hear (readL c.bytes).1).1.all (if ((c.cut (readL c.bytes).2.1).hear (readL c.bytes).1).2.1 then n + 1 else n) := by
 unfold Cl.all; conv => lhs; unfold hearAll
 split
 · rfl
 split
 · rfl
 split
 · rfl
 rename_i h0
 split
 · rfl
 have h1 := cut_len c h0; have h2 := hear_len (c.cut (readL c.bytes).2.1) (readL c.bytes).1; exact hearAll_more _ _ _ _ (by omega) (by omega)
def Cl.hears (c : Cl) (b : List UInt8) : Cl × Nat × Int :=
 if c.on = false then (c, 0, 380)
 else if (({ c with bytes := c.bytes ++ b } : Cl).all 0).2.2 ≠ 0 then
  ((({ c with bytes := c.bytes ++ b } : Cl).all 0).1.ended (({ c with bytes := c.bytes ++ b } : Cl).all 0).2.2, (({ c with bytes := c.bytes ++ b } : Cl).all 0).2)
 else ({ c with bytes := c.bytes ++ b } : Cl).all 0
section
attribute [local go_sem] Oper.semAt_some
theorem elem_ens : Tryz.prog.elem 39 = 35 := by kernel_rfl
theorem size_en (w : World) : (sizeOf 35).run Tryz.prog w = .ok 4 w := by kernel_rfl
theorem slE_h (W : World) (a : Option Addr) (n c j : Nat) (hj : j ≤ c) : (Instr.sliceAt 39 (.slice a n c) none (some (.int .i64 (j : Int))) none).run Tryz.prog W = .ok (sliced a 0 j c 4) W := by
 have hu : Tryz.prog.underlying 39 = some (.slice (Tryz.prog.elem 39)) := by rw [elem_ens]; exact Tryz.underlying39
 rw [run_sliceAt_slice _ _ _ _ _ _ hu, run_slice_h _ _ _ _ _ hu _ _ (by omega) (by omega), elem_ens, size_en]; simp [Result.andThen]
theorem slE_l (W : World) (a : Option Addr) (n c i : Nat) (hi : i ≤ n) : (Instr.sliceAt 39 (.slice a n c) (some (.int .i64 (i : Int))) none none).run Tryz.prog W = .ok (sliced a i n c 4) W := by
 have hu : Tryz.prog.underlying 39 = some (.slice (Tryz.prog.elem 39)) := by rw [elem_ens]; exact Tryz.underlying39
 rw [run_sliceAt_slice _ _ _ _ _ _ hu, run_slice_l _ _ _ _ _ hu _ _ (by omega) (by omega), elem_ens, size_en]; simp [Result.andThen]
abbrev toldB (x : Sd) (y : En) : Bool := decide (y.number ≤ x.e.number)
theorem ctold_any (w : World) (kx : Nat) (x : Sd) (y : En) (hB : Box w kx 37 x.cells) : Calls Tryz.prog 180 #[.agg y.cells.toArray, .pointer (some ⟨kx, 0, none⟩)] w fun e w' => e = .returned (.bool (toldB x y)) ∧ Ext w w' := by
 have HM := Hd (Mem.start0 w); have HB := Hd hB; clear hB; unfold Sd.cells at HB; unfold En.cells; go_enter Tryz.func180, Tryz.ntmps180
 have fM := HM.out.fa; have fMHB := (HB.out.ext HM.out.extTo).reads; have fLHB := (HB.out.ext HM.out.extTo).lt; go_wp2_with fail; all_goals clear fM fMHB fLHB
 refine nxt HM fun w1 M => ?_
 replace HM := M; clear M; go_ret; exact ⟨rfl, HM.out.extTo⟩
def IdxOut (x : Sd) (l : List En) (r : Int) : Prop := (r = -1 ∧ l.all (fun y => !toldB x y) = true) ∨ ∃ k, k < l.length ∧ r = (k : Int) ∧ toldB x (l.getD k En0) = true ∧ (l.take k).all (fun y => !toldB x y) = true
theorem idx_any {A : Nat → Prop} (w : World) (v : Value) (l : List En) (kx : Nat) (x : Sd) (h : (rowR tenE v l).p A w) (hB : Box w kx 37 x.cells) (hl : l.length ≤ 1000) :
 Calls Tryz.prog 223 #[v, .func (.func 180) #[] #[.pointer (some ⟨kx, 0, none⟩)]] w fun e w' => (∃ r, e = .returned (.int .i64 r) ∧ IdxOut x l r) ∧ Ext w w' := by
 obtain ⟨a, c, rfl⟩ := row_len h; have HR := Hd h; have HB := Hd hB; have hc := enters_of (P := Tryz.prog) Tryz.func180 (by kernel_rfl) rfl; clear h hB; go_enter Tryz.func223, Tryz.ntmps223
 go_wp2_with fail; go_loopw [8] (fun i wr => ∃ j : Nat, j ≤ l.length ∧ i = .int .i64 j ∧ Hid ((l.take j).all (fun y => !toldB x y) = true) ∧ Hid (Mem NoB w wr [])) (fun i _ => l.length - (intOf i).toNat)
 case atStart => exact ⟨0, Nat.zero_le _, rfl, Hd (by simp), Hd (Mem.start0 w)⟩
 case round =>
  obtain ⟨j, hj, rfl, HAL, HM⟩ := hrel; by_cases hlt : j < l.length
  · have g1 : (j : Int) < l.length := by omega
    have g2 : ¬ (j : Int) < 0 := by omega
    obtain ⟨g, o, cap, hva, -, -, hcells⟩ := row_cells (Res.keeps _ HR.out HM.out.extTo (fun _ _ => noB _)) (by omega); cases hva
    have hce := hcells j hlt; have HSN := Hd (show ((l.take (j + 1)).all fun y => !toldB x y) = (((l.take j).all fun y => !toldB x y) && !toldB x l[j]) by rw [List.take_succ_eq_append_getElem hlt, List.all_append]; simp); have HGD := Hd (show l.getD j En0 = l[j] by rw [List.getD_eq_getElem?_getD, List.getElem?_eq_getElem hlt]; rfl); obtain ⟨y, hy⟩ : ∃ y, l[j] = y := ⟨_, rfl⟩; rw [hy] at hce HSN HGD; have c0 := hce 0 (by decide); have c1 := hce 1 (by decide); have c2 := hce 2 (by decide); have c3 := hce 3 (by decide); simp only [tenE, En.cells, Nat.add_zero, List.getElem?_cons_zero, List.getElem?_cons_succ] at c0 c1 c2 c3; clear hce hcells hy; go_wp2_with fail; clear c0 c1 c2 c3; refine (ctold_any wr kx x y (HB.out.ext HM.out.extTo)).mono ?_; rintro e w2 ⟨rfl, hE2⟩; replace HM := Hd (HM.out.ext hE2); clear hE2; cases hm : toldB x y
    · rw [hm, HAL.out] at HSN
      clear hm; go_wp2_with fail; go_roundw
      case rel => exact ⟨j + 1, by omega, by go_num, HSN, HM⟩
      case measure => simp [intOf]; omega
    · go_wp2_with fail
      go_ret; exact ⟨⟨_, rfl, .inr ⟨j, hlt, rfl, by rw [HGD.out]; exact hm, HAL.out⟩⟩, HM.out.extTo⟩
  · obtain rfl : j = l.length := by omega
    rw [List.take_length] at HAL; go_wp2_with fail; go_ret; exact ⟨⟨_, rfl, .inl ⟨rfl, HAL.out⟩⟩, HM.out.extTo⟩
theorem filter_all {l : List En} {p : En → Bool} (h : l.all p = true) : l.filter p = l := List.filter_eq_self.2 fun y hy => List.all_eq_true.1 h y hy
abbrev zeroE : En := ⟨0, 0, 0, []⟩
theorem zeroEv (w : World) : (zeroValue 35).run Tryz.prog w = .ok (.agg #[.int .i64 0, .int .i64 0, .int .i64 0, .string ⟨#[]⟩]) w := by kernel_rfl
theorem clear_en {A : Nat → Prop} {w : World} {g o c : Nat} {m : List En} (ty : TypeId) (h : (rowR tenE (.slice (some ⟨g, o, none⟩) m.length c) m).p A w) (q : Nat) (hq : q < m.length) :
 ∃ w', (Builtin.clear_ #[39] ty #[.slice (some ⟨g, o + q * 4, none⟩) (m.length - q) (c - q)]).run Tryz.prog w = .ok (.tuple #[]) w' ∧ Upd A w w' (rowR tenE (.slice (some ⟨g, o, none⟩) q c) (m.take q)) := by
 have hlen : (List.replicate (m.length - q) zeroE).length = m.length - q := List.length_replicate; obtain ⟨h1, F', h2, h3, h4⟩ := row_put h q (List.replicate (m.length - q) zeroE) (by rw [hlen]; omega); refine ⟨_, run_clear_row w 39 35 ty _ Tryz.underlying39 (zeroEv w) g (o + q * 4) _ _ (by omega) _ (zero_row tenE zeroE _ rfl (by decide) _) h1 (tenE.row_one _), F', ?_, h3, h4⟩
 have hn : (m.take q ++ List.replicate (m.length - q) zeroE ++ m.drop (q + (List.replicate (m.length - q) zeroE).length)).length = m.length := by
  rw [List.length_append, List.length_append, List.length_take, List.length_drop, hlen]; omega
 have h5 := row_front h2 q (by rw [hn]; omega); rw [List.append_assoc, List.take_append_of_le_length (by rw [List.length_take]; omega), List.take_take, Nat.min_self] at h5; exact h5
theorem del_any {A : Nat → Prop} (w : World) (v : Value) (l : List En) (kx : Nat) (x : Sd) (h : (rowR tenE v l).p A w) (hA : ¬ A kx) (hB : Box w kx 37 x.cells) (hl : l.length ≤ 1000) :
 Calls Tryz.prog 181 #[v, .func (.func 180) #[] #[.pointer (some ⟨kx, 0, none⟩)]] w fun e w' => ∃ v', e = .returned v' ∧ Upd A w w' (rowR tenE v' (l.filter fun y => !toldB x y)) := by
 obtain ⟨a, c, rfl⟩ := row_len h; have HM := Hd (Mem.start h); have HR := Hd h; have HB := Hd hB; have HA := Hd hA; have hc := enters_of (P := Tryz.prog) Tryz.func180 (by kernel_rfl) rfl; clear h hB hA; go_enter Tryz.func181, Tryz.ntmps181
 go_wp2_with fail; refine (idx_any w _ l kx x HR.out HB.out hl).mono ?_; rintro e w2 ⟨⟨r, rfl, hr⟩, hE⟩; replace HM := Hd (HM.out.ext hE); clear hE HR; rcases hr with ⟨rfl, hall⟩ | ⟨k, hk, rfl, htk, hall⟩
 · go_wp2_with fail
   go_ret; rw [filter_all hall]; exact ⟨_, rfl, HM.out.upd⟩
 have HT := Hd htk; have HAL := Hd hall; have g0 : ((k : Int) == -1) = false := by simp
 have hll : (l.length : Int) ≤ 1000 := by omega
 clear htk hall; go_wp2_with fail; go_loopw [5, 6] (fun i j wr => ∃ (q p : Nat) (m : List En), q < p ∧ p ≤ l.length ∧ i = .int .i64 q ∧ j = .int .i64 p ∧ Hid (m.length = l.length ∧ m.take q = (l.take p).filter (fun y => !toldB x y) ∧ m.drop p = l.drop p) ∧ Hid (Mem A w wr [rowR tenE (.slice a l.length c) m])) (fun _ j _ => l.length - (intOf j).toNat)
 case atStart =>
  refine ⟨k, k + 1, l, by omega, by omega, rfl, rfl, Hd ⟨rfl, ?_, rfl⟩, HM⟩; rw [List.take_succ_eq_append_getElem hk, List.filter_append, filter_all HAL.out]; have h1 := HT.out; rw [List.getD_eq_getElem?_getD, List.getElem?_eq_getElem hk] at h1; have h2 : toldB x l[k] = true := h1; simp [h2]
 case round =>
  clear HM; obtain ⟨q, p, m, hqp, hp, rfl, rfl, HF, HM⟩ := hrel; by_cases hlt : p < l.length
  · have g1 : (p : Int) < l.length := by omega
    have g2 : ¬ (p : Int) < 0 := by omega
    have g3 : ¬ (q : Int) < 0 := by omega
    have g4 : (q : Int) < l.length := by omega
    have hml := HF.out.1; obtain ⟨A1, hA1, hS⟩ := HM.out.step; obtain ⟨g, o, cap, hva, -, -, hcells⟩ := row_cells hA1 (by omega); rw [hml] at hva; cases hva
    have hce := hcells p (by omega)
    have HMP := Hd (show m[p]'(by omega) = l[p] from Option.some.inj (by
     have h1 := congrArg (·[0]?) HF.out.2.2; simp only [List.getElem?_drop, Nat.add_zero] at h1; rwa [List.getElem?_eq_getElem (by omega), List.getElem?_eq_getElem hlt] at h1))
    rw [HMP.out] at hce; have HSN := Hd (show (l.take (p + 1)).filter (fun y => !toldB x y) = (l.take p).filter (fun y => !toldB x y) ++ [l[p]].filter (fun y => !toldB x y) by rw [List.take_succ_eq_append_getElem hlt, List.filter_append]); obtain ⟨y, hy⟩ : ∃ y, l[p] = y := ⟨_, rfl⟩; rw [hy] at hce HSN; have c0 := hce 0 (by decide); have c1 := hce 1 (by decide); have c2 := hce 2 (by decide); have c3 := hce 3 (by decide); simp only [tenE, En.cells, Nat.add_zero, List.getElem?_cons_zero, List.getElem?_cons_succ] at c0 c1 c2 c3; clear hce hcells hy hS hA1; clear A1; have fM := HM.out.fa; go_wp2_with fail; all_goals clear fM
    clear c0 c1 c2 c3; refine nxt HM fun w3 M => ?_
    replace HM := M; clear M; refine (ctold_any w3 kx x y (HB.out.keeps HM.out.keepsTo HA.out)).mono ?_; rintro e w4 ⟨rfl, hE2⟩; replace HM := Hd (HM.out.ext hE2); clear hE2; cases hm : toldB x y
    · rw [show [y].filter (fun y => !toldB x y) = [y] by simp [hm]] at HSN
      clear hm; obtain ⟨A1, hA1, hS⟩ := (HM.out.pick (r := rowR tenE (.slice (some ⟨g, o, none⟩) l.length c) m) pk).step; obtain ⟨hth, hU⟩ := row_put hA1 q [y] (by show q + 1 ≤ m.length; omega); have hone : tenE.row [y] = y.cells := List.append_nil _; rw [hone, show tenE.sz = 4 from rfl] at hth hU; rw [show m.take q ++ [y] ++ m.drop (q + [y].length) = m.take q ++ [y] ++ m.drop (q + 1) from rfl] at hU; have HU := Hd (hS _ _ hU); have HTH := Hd hth; clear hth hU hS hA1 hone; clear A1; have fM := HM.out.fa; go_wp2_with ((with_reducible refine at_list ?_); (with_reducible refine at_store 35 _ _ rfl ?_); refine standing ?_); clear fM; refine ⟨?_⟩; refine wpList_store_mid rfl 35 _ _ rfl g (o + q * 4) y.cells.toArray rfl rfl HTH.out (by kernel_rfl) (all_oneCell_toArray (tenE.one y)) ?_; change wpList _ _ _ _ _ (w4.setCells g (o + q * 4) y.cells)
      obtain ⟨w5, hw5⟩ : ∃ x, w4.setCells g (o + q * 4) y.cells = x := ⟨_, rfl⟩; rw [hw5] at HU ⊢; replace HM := HU; clear HU hw5 HTH; go_wp2_with fail; go_roundw
      case rel =>
       refine ⟨q + 1, p + 1, m.take q ++ [y] ++ m.drop (q + 1), by omega, by omega, by go_num, by go_num, Hd ⟨?_, ?_, ?_⟩, Hd (Mem.sub HM.out sbI)⟩
       · rw [List.length_append, List.length_append, List.length_take, List.length_drop]; simp; omega
       · rw [HSN.out, ← HF.out.2.1, List.append_assoc, List.take_append, List.take_of_length_le (by rw [List.length_take]; omega)]
         have : q + 1 - (m.take q).length = 1 := by rw [List.length_take]; omega
         rw [this]; rfl
       · have hl2 : (m.take q ++ [y]).length = q + 1 := by rw [List.length_append, List.length_take]; simp; omega
         rw [List.drop_append, hl2, List.drop_of_length_le (by omega), List.nil_append, List.drop_drop, show q + 1 + (p + 1 - (q + 1)) = p + 1 by omega]; have h1 := congrArg (List.drop 1) HF.out.2.2; rwa [List.drop_drop, List.drop_drop] at h1
      case measure => simp [intOf]; omega
    · rw [show [y].filter (fun y => !toldB x y) = [] by simp [hm], List.append_nil] at HSN
      clear hm; go_wp2_with fail; go_roundw
      case rel =>
       refine ⟨q, p + 1, m, by omega, by omega, rfl, by go_num, Hd ⟨hml, by rw [HSN.out]; exact HF.out.2.1, ?_⟩, Hd (Mem.sub HM.out sbI)⟩; have h1 := congrArg (List.drop 1) HF.out.2.2; rwa [List.drop_drop, List.drop_drop] at h1
      case measure => simp [intOf]; omega
  · obtain rfl : p = l.length := by omega
    have hml := HF.out.1; have hft := HF.out.2.1; rw [List.take_length] at hft; obtain ⟨A1, hA1, hS⟩ := HM.out.step; obtain ⟨g, o, cap, hva, hcap, -, -⟩ := row_cells hA1 (by omega); rw [hml] at hva hcap; cases hva
    have hcq : ¬ c = q := by omega
    have hc0 : ¬ c = 0 := by omega
    have hsl := fun W => slE_l W (some ⟨g, o, none⟩) l.length c q (by omega)
    have hsh := fun W => slE_h W (some ⟨g, o, none⟩) l.length c q (by omega)
    rw [← hml] at hA1; obtain ⟨w5, hcl, hU⟩ := clear_en 0 hA1 q (by omega); rw [hml] at hcl; have HU := Hd (hS _ _ hU); rw [hft] at HU; have e1 : sliced (some ⟨g, o, none⟩) q l.length c 4 = .slice (some ⟨g, o + q * 4, none⟩) (l.length - q) (c - q) := by unfold sliced; rw [if_neg hcq, Option.map_some, Addr.add_lit]
    have e2 : sliced (some ⟨g, o, none⟩) 0 q c 4 = .slice (some ⟨g, o, none⟩) q c := by unfold sliced; rw [if_neg hc0, Option.map_some, Addr.add_lit]; simp
    simp only [e1] at hsl; simp only [e2] at hsh; clear hU hS hA1 hcap hcq hc0 e1 e2 HF hft; go_wp2_with fail; go_ret; exact ⟨_, rfl, HU.out.upd⟩
end
section
attribute [local go_sem] Oper.semAt_some
abbrev errP (n : Int) : List PanicEntry := [{ v := .iface 24 (.int .i64 n), recovered := false }]
theorem cmust_any (w : World) (b : Bool) (n : Int) : Calls Tryz.prog 124 #[.bool b, .int .i64 n] w fun e w' => e = (if b then .returned (.tuple #[]) else .panicked (errP n)) ∧ w' = w := by
 cases b
 · go_enter Tryz.func124, Tryz.ntmps124
   go_wp2_with fail; exact ⟨rfl, rfl, rfl⟩
 · exact cmust_ok w n
def putL (cs : List Value) (k : Nat) : List Value → List Value
 | [] => cs
 | v :: vs => putL (cs.set k v) (k + 1) vs
theorem Box.setCells {t : TypeId} {b : Nat} : ∀ (vs : List Value) {w : World} {cs : List Value} (k : Nat), Box w b t cs → Box (w.setCells b k vs) b t (putL cs k vs)
 | [], _, _, _, h => h
 | v :: vs, _, _, k, h => Box.setCells vs (k + 1) (h.set k v)
theorem Mem.setMid {P : Program} {F : Nat → Prop} {w0 w : World} {L : List Res} {b : Nat} {t : TypeId} {cs : List Value} (ty : TypeId) (h : Mem F w0 w (cellsR b t cs :: L)) (k : Nat) (vs : List Value) (hk : k + vs.length ≤ cs.length)
 (hi : (P.info? ty).map (·.size) = some vs.length) (h1 : ∀ v ∈ vs, v.oneCell' = true) :
 ∃ w', (Instr.storeAt ty (.pointer (some ⟨b, k, none⟩)) (.agg vs.toArray)).run P w = .ok () w' ∧ Mem F w0 w' (cellsR b t (putL cs k vs) :: L) := by
 obtain ⟨A, hA, hS⟩ := h.step
 have hth : w.there b k vs.toArray.size := fun j hj => by
  have hj2 : j < vs.length := by simpa using hj
  refine ⟨?_, hA.2.reads.2 _⟩; rw [hA.2.reads.1, List.getElem?_eq_getElem (by omega)]; rfl
 exact ⟨_, run_storeAt_mid w b k ty vs.toArray hth (by rw [hi]; simp) (all_oneCell_toArray h1), hS _ _ ⟨A, ⟨hA.1, Box.setCells vs k hA.2⟩, (Keeps.refl _ _).setCells _ _ _ (.inl ((hA.1 b).2 rfl)), fun k hk => .inl hk⟩⟩
theorem wpList_store_ran {P : Program} {ops : Array Oper} {rest : List Oper} {o : Oper} {a : Act} {w w' : World} {Q : Exit → Act → World → Prop} {ty : TypeId} {x y : Operand} {vx vy : Value} (hg : o.guard = none) (ho : o.op = .store ty x y) (hx : a.eval x = vx) (hy : a.eval y = vy)
 (hr : (Instr.storeAt ty vx vy).run P w = .ok () w') (h : wpList P ops Q rest (a.put o.dst undef) w') : wpList P ops Q (o :: rest) a w :=
 wpList_plain hg fun _ hK => by
  have e : (execOp a.eval o).run P w = .ok .skip w' := by unfold execOp; simp [ho, hx, hy, hr, Result.andThen]
  unfold Oper.wp; rw [e]; exact hK _ _ h
def HearPost (A : Nat → Prop) (w : World) (cb : Nat) (q : Cl × Bool × Int) (e : Ending) (w' : World) : Prop := e = (if q.2.2 = 0 then .returned (.bool q.2.1) else .panicked (errP q.2.2)) ∧ Upd A w w' (clR cb q.1)
theorem cbye_any {A : Nat → Prop} (w : World) (cb : Nat) (c : Cl) (x : Sd) (h : (clR cb c).p A w) :
 Calls Tryz.prog 121 #[.pointer (some ⟨cb, 0, none⟩), x.v] w (HearPost A w cb ({ c with on := false, why := x.number, bytes := [] }, false, 0)) := by
 have HM := Hd (Mem.start h); clear h; unfold Sd.v Sd.cells; go_enter Tryz.func121, Tryz.ntmps121
 have fM := HM.out.fa; go_wp2_with (((with_reducible refine at_box 37 _ rfl ?_); refine boW 37 _ rfl rfl rfl HM.out ?_; intro w9 n9 M); replace HM := Hd M; clear M fM; have fM := HM.out.fa); all_goals clear fM
 rename Nat => kx
 refine nxt HM fun w1 M => ?_
 replace HM := M; clear M; obtain ⟨C, hC, hS⟩ := (HM.out.pick (r := clR cb c) pk).step; refine (cend_any w1 cb c x.number hC).mono ?_; rintro e w2 ⟨rfl, hU⟩; replace HM := Hd (hS _ _ hU); clear hU hS hC C; have fM := HM.out.fa; go_wp2_with fail; all_goals clear fM
 go_ret; exact ⟨rfl, HM.out.upd⟩
end
section
def qCF0 : List (Nat × Nat) := [(0, 0), (0, 1), (0, 2), (0, 3), (3, 4), (0, 5), (0, 6), (0, 7), (0, 8), (0, 9), (0, 10), (3, 11), (0, 12), (3, 13), (0, 14), (0, 15)]
attribute [local go_sem] Oper.semAt_some
theorem cmust_no (w : World) (n : Int) : Calls Tryz.prog 124 #[.bool false, .int .i64 n] w fun e w' => e = .panicked (errP n) ∧ w' = w := cmust_any w false n
abbrev fal16 : List Value := Bx.none.cells
theorem fal_one : ∀ v ∈ fal16, v.oneCell' = true := by decide
theorem infoSet : (Tryz.prog.info? 110).map (·.size) = some 16 := by kernel_rfl
theorem putL_ty (lv kv wv bv : Value) (c : Cl) : putL (clC lv kv wv bv c) 9 fal16 = clC lv kv wv bv { c with ty := Bx.none } := by kernel_rfl
theorem putL_he (lv kv wv bv : Value) (c : Cl) : putL (clC lv kv wv bv c) 25 fal16 = clC lv kv wv bv { c with he := Bx.none } := by kernel_rfl
theorem cwelcome_any {A : Nat → Prop} (w : World) (cb : Nat) (c : Cl) (x : Sd) (h : (clR cb c).p A w) :
 Calls Tryz.prog 117 #[.pointer (some ⟨cb, 0, none⟩), x.v] w (HearPost A w cb (c.welcome x)) := by
 by_cases h1 : c.m.next < 0
 · have HS := Hd (show c.welcome x = ({ c with m := { c.m with token := x.token, next := x.index }, ty := Bx.none, he := Bx.none, gr := true }, false, 0) by unfold Cl.welcome; rw [if_neg (by omega)])
   have d1 : decide (c.m.next < 0) = true := by simpa using h1
   clear h1; obtain ⟨lv, kv, wv, bv, hm⟩ := (Mem.start h).clOpen; have HM := Hd hm; clear hm h; unfold Sd.v Sd.cells; go_enter Tryz.func117, Tryz.ntmps117
   have fM := HM.out.fa; go_wp2_with (((with_reducible refine at_box 37 _ rfl ?_); refine boW 37 _ rfl rfl rfl HM.out ?_; intro w9 n9 M); replace HM := Hd M; clear M fM; have fM := HM.out.fa); all_goals clear fM
   rename Nat => kx
   refine nxt HM fun w1 M => ?_
   replace HM := M; clear M; have fM := HM.out.fa; have hE0 : Keeps NoB w1 w1.drew := (Keeps.refl _ _).drew; refine rgE qCF0 [] [16] [16] ?_ (hp := (plan3 [0, 1, 3, 7, 15, 31, 63, 127, 255, 511, 1023, 2047, 127, 4223, 16383, 32767, 65535] (by kernel_rfl) rfl (by kernel_rfl))); simp only [qCF0, planL, nL]; iterate 8 (first | (refine plan_skip rfl ?_; simp only [nP]) | (refine pM _ rfl rfl ?_; simp only [nP, nE]) | (refine pR (by rfl) (fun W => by go_simp <;> with_reducible rfl) ?_; simp only [nP]) | (refine pX (by rfl) (by go_simp <;> with_reducible rfl) ?_; simp only [nP]))
   iterate 3 ((refine plan_skip rfl ?_; simp only [nP]))
   iterate 5 (first | (refine plan_skip rfl ?_; simp only [nP]) | (refine pR (by rfl) (fun W => by go_simp <;> with_reducible rfl) ?_; simp only [nP]))
   refine plan_nil ?_; simp only [tailL, List.filterMap_cons, List.filterMap_nil, nL]; change wpList _ _ _ (_ :: []) _ _; go_wp2_with fail; refine (cmust_ok _ 381).mono ?_; rintro e w9 ⟨rfl, rfl⟩; clear hE0; clear fM; go_wp2_with fail; refine nxt HM fun w2 M => ?_
   replace HM := M; clear M; have fM := HM.out.fa; have hE0 : Keeps (fun k => k = cb) w2 w2.drew := (Keeps.refl _ _).drew; refine rgK (fun k => k = cb) [(0, 0), (0, 1), (0, 2), (0, 3), (3, 4), (0, 5), (1, 6), (0, 7), (0, 8), (0, 9), (2, 10), (0, 11), (0, 12), (0, 13)] [6] [10, 14, 15, 16, 17] [14, 15, 16, 17] ?_ (hp := (plan3 [0, 0, 0, 0, 8, 0, 32, 25, 153, 409, 921, 2043, 4091, 8187, 16379, 32767, 65535, 131071] (by kernel_rfl) rfl (by kernel_rfl))); simp only [planL, nL]; iterate 10 (first | (refine pM _ rfl rfl ?_; simp only [nP, nE]) | (refine pR (by rfl) (fun W => by go_simp <;> with_reducible rfl) ?_; simp only [nP]) | (refine pX (by rfl) (by go_simp <;> with_reducible rfl) ?_; simp only [nP]) | (refine pK (by rfl) (fun W => by go_simp <;> with_reducible rfl) ?_; simp only [nP]))
   refine plan_does rfl (fun K hK => ?_); go_wp2_with fail; refine ⟨ClsK.of (by repeat (first | assumption | exact Keeps.refl _ _ | refine Keeps.alloc ?_ _ | refine Keeps.setOne ?_ _ _ | refine Keeps.setCell ?_ _ _ (.inl (by first | rfl | exact .inl rfl | exact .inr rfl | omega)) | refine Keeps.drew ?_)), ?_⟩; try simp only [nP]
   iterate 3 (refine pR rfl (fun W => by go_simp <;> with_reducible rfl) ?_; simp only [nP])
   refine plan_nil ?_; simp only [tailL, List.filterMap_cons, List.filterMap_nil, nL]; change wpList _ _ _ (_ :: _ :: _ :: _ :: []) _ _; go_wp2_with ((with_reducible refine at_list ?_); (with_reducible refine at_store 110 _ _ rfl ?_); refine standing ?_); clear fM; refine nxt HM fun w3 M => ?_
   replace HM := M; clear M; have hm : Mem A w w3 [cellsR cb 112 (clC lv kv wv bv { c with m := { c.m with token := x.token, next := x.index }, gr := true }), cellsR kx 37 x.cells, linR lv kv c.m.lines c.k.lines, rowR tenE wv c.waits, readR bv c.bytes] := HM.out; replace HM := Hd hm; clear hm; refine ⟨?_⟩; obtain ⟨w4, hr, hm⟩ := Mem.setMid 110 HM.out 9 fal16 (by show 25 ≤ 46; decide) infoSet fal_one; rw [putL_ty] at hm; replace HM := Hd hm; refine wpList_store_ran rfl rfl rfl rfl hr ?_; clear hr hm; go_wp2_with ((with_reducible refine at_list ?_); (with_reducible refine at_store 110 _ _ rfl ?_); refine standing ?_); refine ⟨?_⟩; obtain ⟨w5, hr, hm⟩ := Mem.setMid 110 HM.out 25 fal16 (by show 41 ≤ 46; decide) infoSet fal_one; rw [putL_he] at hm; replace HM := Hd hm; refine wpList_store_ran rfl rfl rfl rfl hr ?_; clear hr hm; go_wp2_with fail; go_ret; unfold HearPost; rw [HS.out]; have hm : Mem A w w5 [cellsR cb 112 (clC lv kv wv bv { c with m := { c.m with token := x.token, next := x.index }, ty := Bx.none, he := Bx.none, gr := true }), cellsR kx 37 x.cells, linR lv kv c.m.lines c.k.lines, rowR tenE wv c.waits, readR bv c.bytes] := HM.out; exact ⟨rfl, (Mem.clClose (c := { c with m := { c.m with token := x.token, next := x.index }, ty := Bx.none, he := Bx.none, gr := true }) (L := []) (Mem.sub hm (by repeat first | exact Sub.nil | refine Sub.cons (by with_reducible repeat first | exact ph | apply pt) ?_))).upd⟩
 have d1 : decide (c.m.next < 0) = false := by simpa using h1
 by_cases h2 : c.m.next = x.index
 · have HS := Hd (show c.welcome x = ({ c with m := { c.m with token := x.token, next := x.index }, ty := Bx.none, he := Bx.none, gr := true }, false, 0) by unfold Cl.welcome; rw [if_neg (fun h => h.2 h2)])
   have d2 : (c.m.next == x.index) = true := by simpa using h2
   clear h1 h2; obtain ⟨lv, kv, wv, bv, hm⟩ := (Mem.start h).clOpen; have HM := Hd hm; clear hm h; unfold Sd.v Sd.cells; go_enter Tryz.func117, Tryz.ntmps117
   have fM := HM.out.fa; go_wp2_with (((with_reducible refine at_box 37 _ rfl ?_); refine boW 37 _ rfl rfl rfl HM.out ?_; intro w9 n9 M); replace HM := Hd M; clear M fM; have fM := HM.out.fa); all_goals clear fM
   rename Nat => kx
   refine nxt HM fun w1 M => ?_
   replace HM := M; clear M; have fM := HM.out.fa; have hE0 : Keeps NoB w1 w1.drew := (Keeps.refl _ _).drew; refine rgE qCF0 [] [16] [16] ?_ (hp := (plan3 [0, 1, 3, 7, 15, 31, 63, 127, 255, 511, 1023, 2047, 127, 4223, 16383, 32767, 65535] (by kernel_rfl) rfl (by kernel_rfl))); simp only [qCF0, planL, nL]; iterate 8 (first | (refine pM _ rfl rfl ?_; simp only [nP, nE]) | (refine pR (by rfl) (fun W => by go_simp <;> with_reducible rfl) ?_; simp only [nP]) | (refine pX (by rfl) (by go_simp <;> with_reducible rfl) ?_; simp only [nP]))
   iterate 3 ((refine pR rfl (fun W => by go_simp <;> with_reducible rfl) ?_; simp only [nP]))
   iterate 5 (first | (refine pR (by rfl) (fun W => by go_simp <;> with_reducible rfl) ?_; simp only [nP]) | (refine pX (by rfl) (by go_simp <;> with_reducible rfl) ?_; simp only [nP]))
   refine plan_nil ?_; simp only [tailL, List.filterMap_cons, List.filterMap_nil, nL]; change wpList _ _ _ (_ :: []) _ _; go_wp2_with fail; refine (cmust_ok _ 381).mono ?_; rintro e w9 ⟨rfl, rfl⟩; clear hE0 d1 d2; clear fM; go_wp2_with fail; refine nxt HM fun w2 M => ?_
   replace HM := M; clear M; have fM := HM.out.fa; have hE0 : Keeps (fun k => k = cb) w2 w2.drew := (Keeps.refl _ _).drew; refine rgK (fun k => k = cb) [(0, 0), (0, 1), (0, 2), (0, 3), (3, 4), (0, 5), (1, 6), (0, 7), (0, 8), (0, 9), (2, 10), (0, 11), (0, 12), (0, 13)] [6] [10, 14, 15, 16, 17] [14, 15, 16, 17] ?_ (hp := (plan3 [0, 0, 0, 0, 8, 0, 32, 25, 153, 409, 921, 2043, 4091, 8187, 16379, 32767, 65535, 131071] (by kernel_rfl) rfl (by kernel_rfl))); simp only [planL, nL]; iterate 10 (first | (refine pM _ rfl rfl ?_; simp only [nP, nE]) | (refine pR (by rfl) (fun W => by go_simp <;> with_reducible rfl) ?_; simp only [nP]) | (refine pX (by rfl) (by go_simp <;> with_reducible rfl) ?_; simp only [nP]) | (refine pK (by rfl) (fun W => by go_simp <;> with_reducible rfl) ?_; simp only [nP]))
   refine plan_does rfl (fun K hK => ?_); go_wp2_with fail; refine ⟨ClsK.of (by repeat (first | assumption | exact Keeps.refl _ _ | refine Keeps.alloc ?_ _ | refine Keeps.setOne ?_ _ _ | refine Keeps.setCell ?_ _ _ (.inl (by first | rfl | exact .inl rfl | exact .inr rfl | omega)) | refine Keeps.drew ?_)), ?_⟩; try simp only [nP]
   iterate 3 (refine pR rfl (fun W => by go_simp <;> with_reducible rfl) ?_; simp only [nP])
   refine plan_nil ?_; simp only [tailL, List.filterMap_cons, List.filterMap_nil, nL]; change wpList _ _ _ (_ :: _ :: _ :: _ :: []) _ _; go_wp2_with ((with_reducible refine at_list ?_); (with_reducible refine at_store 110 _ _ rfl ?_); refine standing ?_); clear fM; refine nxt HM fun w3 M => ?_
   replace HM := M; clear M; have hm : Mem A w w3 [cellsR cb 112 (clC lv kv wv bv { c with m := { c.m with token := x.token, next := x.index }, gr := true }), cellsR kx 37 x.cells, linR lv kv c.m.lines c.k.lines, rowR tenE wv c.waits, readR bv c.bytes] := HM.out; replace HM := Hd hm; clear hm; refine ⟨?_⟩; obtain ⟨w4, hr, hm⟩ := Mem.setMid 110 HM.out 9 fal16 (by show 25 ≤ 46; decide) infoSet fal_one; rw [putL_ty] at hm; replace HM := Hd hm; refine wpList_store_ran rfl rfl rfl rfl hr ?_; clear hr hm; go_wp2_with ((with_reducible refine at_list ?_); (with_reducible refine at_store 110 _ _ rfl ?_); refine standing ?_); refine ⟨?_⟩; obtain ⟨w5, hr, hm⟩ := Mem.setMid 110 HM.out 25 fal16 (by show 41 ≤ 46; decide) infoSet fal_one; rw [putL_he] at hm; replace HM := Hd hm; refine wpList_store_ran rfl rfl rfl rfl hr ?_; clear hr hm; go_wp2_with fail; go_ret; unfold HearPost; rw [HS.out]; have hm : Mem A w w5 [cellsR cb 112 (clC lv kv wv bv { c with m := { c.m with token := x.token, next := x.index }, ty := Bx.none, he := Bx.none, gr := true }), cellsR kx 37 x.cells, linR lv kv c.m.lines c.k.lines, rowR tenE wv c.waits, readR bv c.bytes] := HM.out; exact ⟨rfl, (Mem.clClose (c := { c with m := { c.m with token := x.token, next := x.index }, ty := Bx.none, he := Bx.none, gr := true }) (L := []) (Mem.sub hm (by repeat first | exact Sub.nil | refine Sub.cons (by with_reducible repeat first | exact ph | apply pt) ?_))).upd⟩
 have HS := Hd (show c.welcome x = (c, false, 381) by unfold Cl.welcome; rw [if_pos ⟨by omega, h2⟩]); have d2 : (c.m.next == x.index) = false := by simpa using h2
 clear h1 h2; obtain ⟨lv, kv, wv, bv, hm⟩ := (Mem.start h).clOpen; have HM := Hd hm; clear hm h; unfold Sd.v Sd.cells; go_enter Tryz.func117, Tryz.ntmps117
 have fM := HM.out.fa; go_wp2_with (((with_reducible refine at_box 37 _ rfl ?_); refine boW 37 _ rfl rfl rfl HM.out ?_; intro w9 n9 M); replace HM := Hd M; clear M fM; have fM := HM.out.fa); all_goals clear fM
 rename Nat => kx
 refine nxt HM fun w1 M => ?_
 replace HM := M; clear M; have fM := HM.out.fa; have hE0 : Keeps NoB w1 w1.drew := (Keeps.refl _ _).drew; refine rgE qCF0 [] [16] [16] ?_ (hp := (plan3 [0, 1, 3, 7, 15, 31, 63, 127, 255, 511, 1023, 2047, 127, 4223, 16383, 32767, 65535] (by kernel_rfl) rfl (by kernel_rfl))); simp only [qCF0, planL, nL]; iterate 8 (first | (refine pM _ rfl rfl ?_; simp only [nP, nE]) | (refine pR (by rfl) (fun W => by go_simp <;> with_reducible rfl) ?_; simp only [nP]) | (refine pX (by rfl) (by go_simp <;> with_reducible rfl) ?_; simp only [nP]))
 iterate 3 ((refine pR rfl (fun W => by go_simp <;> with_reducible rfl) ?_; simp only [nP]))
 iterate 5 (first | (refine pR (by rfl) (fun W => by go_simp <;> with_reducible rfl) ?_; simp only [nP]) | (refine pX (by rfl) (by go_simp <;> with_reducible rfl) ?_; simp only [nP]))
 refine plan_nil ?_; simp only [tailL, List.filterMap_cons, List.filterMap_nil, nL]; change wpList _ _ _ (_ :: []) _ _; go_wp2_with fail; refine (cmust_no _ 381).mono ?_; rintro e w9 ⟨rfl, rfl⟩; clear fM; refine nxt HM fun w2 M => ?_
 replace HM := M; clear M; refine ⟨rfl, ?_⟩; rw [HearPost, HS.out]; exact ⟨rfl, (Mem.clClose (c := c) (L := []) (Mem.sub HM.out (by repeat first | exact Sub.nil | refine Sub.cons (by with_reducible repeat first | exact ph | apply pt) ?_))).upd⟩
end
section
attribute [local go_sem] Oper.semAt_some
theorem lt16 {m : Nat} (h : m < 16) : m = 0 ∨ m = 1 ∨ m = 2 ∨ m = 3 ∨ m = 4 ∨ m = 5 ∨ m = 6 ∨ m = 7 ∨ m = 8 ∨ m = 9 ∨ m = 10 ∨ m = 11 ∨ m = 12 ∨ m = 13 ∨ m = 14 ∨ m = 15 := by omega
theorem clC_ty (lv kv wv bv : Value) (c : Cl) (m : Nat) (h : m < 16) (v : Bool) : (∃ q, (clC lv kv wv bv c)[9 + m]? = some (.bool q)) ∧ (clC lv kv wv bv c).set (9 + m) (.bool v) = clC lv kv wv bv { c with ty := c.ty.set (m : Int) v } := by
 rcases lt16 h with rfl | rfl | rfl | rfl | rfl | rfl | rfl | rfl | rfl | rfl | rfl | rfl | rfl | rfl | rfl | rfl <;> exact ⟨⟨_, rfl⟩, by kernel_rfl⟩
theorem clC_he (lv kv wv bv : Value) (c : Cl) (m : Nat) (h : m < 16) (v : Bool) : (∃ q, (clC lv kv wv bv c)[25 + m]? = some (.bool q)) ∧ (clC lv kv wv bv c).set (25 + m) (.bool v) = clC lv kv wv bv { c with he := c.he.set (m : Int) v } := by
 rcases lt16 h with rfl | rfl | rfl | rfl | rfl | rfl | rfl | rfl | rfl | rfl | rfl | rfl | rfl | rfl | rfl | rfl <;> exact ⟨⟨_, rfl⟩, by kernel_rfl⟩
theorem ctypes_any {A : Nat → Prop} (w : World) (cb : Nat) (c : Cl) (x : Sd) (h : (clR cb c).p A w) (hm : 0 ≤ x.member ∧ x.member ≤ 15) :
 Calls Tryz.prog 119 #[.pointer (some ⟨cb, 0, none⟩), x.v] w (HearPost A w cb ({ c with ty := c.ty.set x.member x.is }, false, 0)) := by
 obtain ⟨lv, kv, wv, bv, hm⟩ := (Mem.start h).clOpen; have HM := Hd hm; clear hm h; unfold Sd.v Sd.cells; go_enter Tryz.func119, Tryz.ntmps119
 have fM := HM.out.fa; go_wp2_with (((with_reducible refine at_box 37 _ rfl ?_); refine boW 37 _ rfl rfl rfl HM.out ?_; intro w9 n9 M); replace HM := Hd M; clear M fM; have fM := HM.out.fa); all_goals clear fM
 rename Nat => kx
 refine nxt HM fun w1 M => ?_
 replace HM := M; clear M; obtain ⟨m, hxm⟩ : ∃ m : Nat, x.member = m := ⟨x.member.toNat, by omega⟩; have hlt : m < 16 := by omega
 have g1 : ¬ (m : Int) < 0 := by omega
 have g2 : (m : Int) < 16 := by omega
 obtain ⟨⟨q, hq⟩, hset⟩ := clC_ty lv kv wv bv c m hlt x.is; have HS := Hd hset; have HXM := Hd hxm; rw [hxm]; clear hset hm; have fM := HM.out.fa; have hE0 : Keeps (fun k => k = cb) w1 w1.drew := (Keeps.refl _ _).drew; refine rgK (fun k => k = cb) [(0, 0), (0, 1), (3, 2), (0, 3), (3, 4), (0, 5), (0, 6), (0, 7)] [] [8] [8] ?_; simp only [planL, nL]; iterate 8 (first | (refine pM _ rfl rfl ?_; simp only [nP, nE]) | (refine pR (by rfl) (fun W => by go_simp <;> with_reducible rfl) ?_; simp only [nP]) | (refine pX (by rfl) (by go_simp <;> with_reducible rfl) ?_; simp only [nP]))
 refine plan_nil ?_; simp only [tailL, List.filterMap_cons, List.filterMap_nil, nL]; change wpList _ _ _ (_ :: []) _ _; go_wp2_with fail; clear fM; clear hq; refine nxt HM fun w2 M => ?_
 replace HM := M; clear M; go_ret; have hm := HM.out; rw [HS.out] at hm; refine ⟨rfl, ?_⟩; exact (Mem.clClose (c := { c with ty := c.ty.set (m : Int) x.is }) (L := []) (Mem.sub hm (by repeat first | exact Sub.nil | refine Sub.cons (by with_reducible repeat first | exact ph | apply pt) ?_))).upd
theorem chere_any {A : Nat → Prop} (w : World) (cb : Nat) (c : Cl) (x : Sd) (h : (clR cb c).p A w) (hm : 0 ≤ x.member ∧ x.member ≤ 15) :
 Calls Tryz.prog 120 #[.pointer (some ⟨cb, 0, none⟩), x.v] w (HearPost A w cb ({ c with he := c.he.set x.member x.is }, false, 0)) := by
 obtain ⟨lv, kv, wv, bv, hm⟩ := (Mem.start h).clOpen; have HM := Hd hm; clear hm h; unfold Sd.v Sd.cells; go_enter Tryz.func120, Tryz.ntmps120
 have fM := HM.out.fa; go_wp2_with (((with_reducible refine at_box 37 _ rfl ?_); refine boW 37 _ rfl rfl rfl HM.out ?_; intro w9 n9 M); replace HM := Hd M; clear M fM; have fM := HM.out.fa); all_goals clear fM
 rename Nat => kx
 refine nxt HM fun w1 M => ?_
 replace HM := M; clear M; obtain ⟨m, hxm⟩ : ∃ m : Nat, x.member = m := ⟨x.member.toNat, by omega⟩; have hlt : m < 16 := by omega
 have g1 : ¬ (m : Int) < 0 := by omega
 have g2 : (m : Int) < 16 := by omega
 obtain ⟨⟨q, hq⟩, hset⟩ := clC_he lv kv wv bv c m hlt x.is; have HS := Hd hset; have HXM := Hd hxm; rw [hxm]; clear hset hm; have fM := HM.out.fa; have hE0 : Keeps (fun k => k = cb) w1 w1.drew := (Keeps.refl _ _).drew; refine rgK (fun k => k = cb) [(0, 0), (0, 1), (3, 2), (0, 3), (3, 4), (0, 5), (0, 6), (0, 7)] [] [8] [8] ?_; simp only [planL, nL]; iterate 8 (first | (refine pM _ rfl rfl ?_; simp only [nP, nE]) | (refine pR (by rfl) (fun W => by go_simp <;> with_reducible rfl) ?_; simp only [nP]) | (refine pX (by rfl) (by go_simp <;> with_reducible rfl) ?_; simp only [nP]))
 refine plan_nil ?_; simp only [tailL, List.filterMap_cons, List.filterMap_nil, nL]; change wpList _ _ _ (_ :: []) _ _; go_wp2_with fail; clear fM; clear hq; refine nxt HM fun w2 M => ?_
 replace HM := M; clear M; go_ret; have hm := HM.out; rw [HS.out] at hm; refine ⟨rfl, ?_⟩; exact (Mem.clClose (c := { c with he := c.he.set (m : Int) x.is }) (L := []) (Mem.sub hm (by repeat first | exact Sub.nil | refine Sub.cons (by with_reducible repeat first | exact ph | apply pt) ?_))).upd
end
section
attribute [local go_sem] Oper.semAt_some
abbrev h1Args (ke kc : Nat) : Array Value := #[.pointer (some ⟨ke, 0, none⟩), .pointer (some ⟨kc, 0, none⟩)]
theorem hear1_none (w : World) (ke kc : Nat) : CallsDIn Fence.wide 8 Tryz.prog 115 (h1Args ke kc) .returning w fun e u' w' => e = .returned (.tuple #[]) ∧ u' = .returning ∧ w' = w := by
 refine callsDIn_of_wpSIn Tryz.func115 rfl trivial fun c₀ cs hu => ?_
 simp only [Tryz.ntmps115, List.size_toArray, List.length_cons, List.length_nil, Nat.reduceAdd, Nat.reduceSub, Array.replicate_succ, Array.replicate_zero, List.push_toArray, List.append_toArray, List.nil_append, List.cons_append]; apply wpSIn_seq
 apply wpSIn_region
 simp [wpOpsSIn, go_sem, recoverD, hu, Exit.thenS, Fence.wide]; refine wpSIn_of_wpIn rfl (wpIn_wide.2 ?_); go_wp2_with fail; cases c₀
 simp_all [bodyPostS, results, Tryz.results115]
theorem hear1_err {A : Nat → Prop} (w : World) (ke kc cb : Nat) (c : Cl) (z n : Int) (h : SepL [cellsR ke 24 [.int .i64 z], cellsR kc 23 [.pointer (some ⟨cb, 0, none⟩)], clR cb c] A w) :
 CallsDIn Fence.wide 8 Tryz.prog 115 (h1Args ke kc) (.panicking (errP n)) w fun e u' w' =>
  e = .returned (.tuple #[]) ∧ u' = .panicking [{ v := .iface 24 (.int .i64 n), recovered := true }] ∧ Mem A w w' [cellsR ke 24 [.int .i64 n], cellsR kc 23 [.pointer (some ⟨cb, 0, none⟩)], clR cb (c.ended n)] := by
 have HM := Hd (Mem.ofSep h); have ha := fun w => assert_errno w n
 clear h; refine callsDIn_of_wpSIn Tryz.func115 rfl trivial fun c₀ cs hu => ?_
 simp only [Tryz.ntmps115, List.size_toArray, List.length_cons, List.length_nil, Nat.reduceAdd, Nat.reduceSub, Array.replicate_succ, Array.replicate_zero, List.push_toArray, List.append_toArray, List.nil_append, List.cons_append]; apply wpSIn_seq
 apply wpSIn_region
 simp [wpOpsSIn, go_sem, recoverD, hu, Exit.thenS, Fence.wide]; refine wpSIn_of_wpIn rfl (wpIn_wide.2 ?_); have fM := HM.out.fa; go_wp2_with fail; all_goals clear fM
 refine nxt HM fun w1 M => ?_
 replace HM := M; clear M; obtain ⟨C, hC, hS⟩ := (HM.out.pick (r := clR cb c) pk).step; refine (cend_any w1 cb c n hC).mono ?_; rintro e w2 ⟨rfl, hU⟩; replace HM := Hd (hS _ _ hU); clear hU hS hC C; go_wp2_with fail; refine ⟨rfl, _, rfl, .tuple #[], ?_, rfl, rfl, ?_⟩
 · simp [results, Tryz.results115]
 exact Mem.sub HM.out sbI
end
end Go.Proofs.YtoadjbgpfihoiaaGreatDoor
