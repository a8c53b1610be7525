/- Texts VD, one behind the other. Conditions: as each says. -/
import Derived.Test.YthhdgjofagdjeaaDoorPkK
section
/- The document's judge as a value, and whether an entry was put in. Condition: it reads as 'RefAt' says. -/
set_option linter.unusedVariables false
set_option linter.unusedSimpArgs false
set_option maxHeartbeats 2000000
set_option maxRecDepth 100000
namespace Go.Proofs.YthhdgjofagdjeaaDoor
open Go.RowKit Go.Shelf
theorem eq_en (x e : En) (w : World) : (binOp .eql 35 (.agg #[.int .i64 x.kind, .int .i64 x.member, .int .i64 x.number, .string (bs x.text)]) (.agg #[.int .i64 e.kind, .int .i64 e.member, .int .i64 e.number, .string (bs e.text)])).run Tryd.prog w = .ok (.bool (decide (x = e))) w := by
  go_simp
  obtain ⟨a, b, c, d⟩ := x
  obtain ⟨a', b', c', d'⟩ := e
  dsimp only
  rw [bs_toList, bs_toList]
  split
  · split
    · split
      · split
        · rw [decide_eq_true (by simp_all)]
        · rw [decide_eq_false (by simp_all)]
      · rw [decide_eq_false (by simp_all)]
    · rw [decide_eq_false (by simp_all)]
  · rw [decide_eq_false (by simp_all)]
theorem ne_en (x e : En) (w : World) : (binOp .neq 35 (.agg #[.int .i64 x.kind, .int .i64 x.member, .int .i64 x.number, .string (bs x.text)]) (.agg #[.int .i64 e.kind, .int .i64 e.member, .int .i64 e.number, .string (bs e.text)])).run Tryd.prog w = .ok (.bool (!decide (x = e))) w := by
  go_simp
  obtain ⟨a, b, c, d⟩ := x
  obtain ⟨a', b', c', d'⟩ := e
  dsimp only
  rw [bs_toList, bs_toList]
  split
  · split
    · split
      · split
        · rw [decide_eq_true (by simp_all)]; rfl
        · rw [decide_eq_false (by simp_all)]; rfl
      · rw [decide_eq_false (by simp_all)]; rfl
    · rw [decide_eq_false (by simp_all)]; rfl
  · rw [decide_eq_false (by simp_all)]; rfl
def JA.rcells (J : JA) (vl vp : Value) : List Value := [.int .i64 J.n, .int .i64 J.m, .int .i64 J.T.slot, vl] ++ (J.told.map iV ++ (J.next.map iV ++ [vp, .int .i64 J.broken]))
def RefAt (w : World) (A : Nat → Prop) (J : JA) (cs : List Value) : Prop :=
  ∃ vl vp, cs = J.rcells vl vp ∧ RowAt lnE w 0 vl J.T.l ∧ (∀ k, Own vl k → A k) ∧ RowAt enE w 0 vp J.put ∧ (∀ k, Own vp k → A k) ∧ J.told.length = 9 ∧ J.next.length = 16
theorem RefAt.keeps {w w' : World} {A S : Nat → Prop} {J : JA} {cs : List Value} (h : RefAt w A J cs) (hk : Keeps S w w') (hS : ∀ k, A k → ¬ S k) : RefAt w' A J cs :=
  let ⟨vl, vp, h1, h2, h3, h4, h5, h6⟩ := h
  ⟨vl, vp, h1, h2.keeps hk fun k hk => hS k (h3 k hk), h3, h4.keeps hk fun k hk => hS k (h5 k hk), h5, h6⟩
theorem RefAt.ext {w w' : World} {A : Nat → Prop} {J : JA} {cs : List Value} (h : RefAt w A J cs) (hk : Ext w w') : RefAt w' A J cs := h.keeps hk fun _ _ => noB _
theorem RefAt.mono {w : World} {A A' : Nat → Prop} {J : JA} {cs : List Value} (h : RefAt w A J cs) (hA : ∀ k, A k → A' k) : RefAt w A' J cs :=
  let ⟨vl, vp, h1, h2, h3, h4, h5, h6⟩ := h
  ⟨vl, vp, h1, h2, fun k hk => hA k (h3 k hk), h4, fun k hk => hA k (h5 k hk), h6⟩
section
variable (J : JA) (vl vp : Value)
theorem JA.rcells_len (h9 : J.told.length = 9) (h16 : J.next.length = 16) : (J.rcells vl vp).length = 31 := by simp [JA.rcells, h9, h16]
theorem JA.rcells_one (a b : Option Addr) (n c m d : Nat) : ∀ u ∈ J.rcells (.slice a n c) (.slice b m d), u.oneCell' = true := by
  intro u hu
  simp only [JA.rcells, List.mem_append, List.mem_cons, List.not_mem_nil, or_false, List.mem_map] at hu
  rcases hu with (rfl | rfl | rfl | rfl) | (⟨x, _, rfl⟩ | (⟨x, _, rfl⟩ | rfl | rfl)) <;> rfl
theorem JA.rat (h9 : J.told.length = 9) (h16 : J.next.length = 16) :
    (J.rcells vl vp)[0]? = some (.int .i64 J.n) ∧ (J.rcells vl vp)[1]? = some (.int .i64 J.m) ∧ (J.rcells vl vp)[2]? = some (.int .i64 J.T.slot) ∧ (J.rcells vl vp)[3]? = some vl ∧
    (∀ p, p < 9 → (J.rcells vl vp)[4 + p]? = some (.int .i64 (J.told.getD p 0))) ∧ (∀ p, p < 16 → (J.rcells vl vp)[13 + p]? = some (.int .i64 (J.next.getD p 0))) ∧
    (J.rcells vl vp)[29]? = some vp ∧ (J.rcells vl vp)[30]? = some (.int .i64 J.broken) := by
  have a1 : (J.told.map iV).length = 9 := by rw [List.length_map, h9]
  have a2 : (J.next.map iV).length = 16 := by rw [List.length_map, h16]
  have key : ∀ j, (J.rcells vl vp)[29 + j]? = ([vp, .int .i64 J.broken] : List Value)[j]? := by
    intro j
    unfold JA.rcells
    rw [List.getElem?_append_right (by show 4 ≤ 29 + j; omega), List.getElem?_append_right (by rw [a1]; show 9 ≤ 29 + j - 4; omega), List.getElem?_append_right (by rw [a1, a2]; show 16 ≤ 29 + j - 4 - 9; omega), a1, a2]
    congr 1
    show 29 + j - 4 - 9 - 16 = j
    omega
  refine ⟨rfl, rfl, rfl, rfl, fun p hp => ?_, fun p hp => ?_, key 0, key 1⟩
  · unfold JA.rcells
    rw [List.getElem?_append_right (by simp), show 4 + p - ([Value.int .i64 J.n, .int .i64 J.m, .int .i64 J.T.slot, vl] : List Value).length = p by simp, List.getElem?_append_left (by omega), List.getElem?_map, List.getD_eq_getElem?_getD, List.getElem?_eq_getElem (by omega)]; rfl
  · unfold JA.rcells
    rw [List.getElem?_append_right (by simp; omega), show 13 + p - ([Value.int .i64 J.n, .int .i64 J.m, .int .i64 J.T.slot, vl] : List Value).length = 9 + p by simp; omega, List.getElem?_append_right (by omega), a1, show 9 + p - 9 = p by omega, List.getElem?_append_left (by omega), List.getElem?_map, List.getD_eq_getElem?_getD, List.getElem?_eq_getElem (by omega)]; rfl
theorem JA.rset_told (p : Nat) (h9 : J.told.length = 9) (hp : p < 9) (n : Int) : (J.rcells vl vp).set (4 + p) (.int .i64 n) = ({ J with told := J.told.set p n } : JA).rcells vl vp := by
  unfold JA.rcells
  rw [List.set_append_right _ _ (by simp), show 4 + p - ([Value.int .i64 J.n, .int .i64 J.m, .int .i64 J.T.slot, vl] : List Value).length = p by simp, List.set_append_left _ _ (by rw [List.length_map]; omega), List.map_set]; rfl
theorem JA.rset_next (p : Nat) (h9 : J.told.length = 9) (h16 : J.next.length = 16) (hp : p < 16) (n : Int) : (J.rcells vl vp).set (13 + p) (.int .i64 n) = ({ J with next := J.next.set p n } : JA).rcells vl vp := by
  unfold JA.rcells
  rw [List.set_append_right _ _ (by simp; omega), show 13 + p - ([Value.int .i64 J.n, .int .i64 J.m, .int .i64 J.T.slot, vl] : List Value).length = 9 + p by simp; omega, List.set_append_right _ _ (by rw [List.length_map]; omega), List.length_map, h9, show 9 + p - 9 = p by omega, List.set_append_left _ _ (by rw [List.length_map]; omega), List.map_set]; rfl
theorem JA.rset_tail (h9 : J.told.length = 9) (h16 : J.next.length = 16) (j : Nat) (u : Value) : (J.rcells vl vp).set (29 + j) u = [.int .i64 J.n, .int .i64 J.m, .int .i64 J.T.slot, vl] ++ (J.told.map iV ++ (J.next.map iV ++ ([vp, .int .i64 J.broken] : List Value).set j u)) := by
  unfold JA.rcells
  rw [List.set_append_right _ _ (by show 4 ≤ 29 + j; omega), show 29 + j - ([Value.int .i64 J.n, .int .i64 J.m, .int .i64 J.T.slot, vl] : List Value).length = 25 + j by simp; omega, List.set_append_right _ _ (by rw [List.length_map]; omega), List.length_map, h9, List.set_append_right _ _ (by rw [List.length_map]; omega), List.length_map, h16]
  congr 4
  omega
theorem JA.rset_put (h9 : J.told.length = 9) (h16 : J.next.length = 16) (u : Value) (l : List En) : (J.rcells vl vp).set 29 u = ({ J with put := l } : JA).rcells vl u := J.rset_tail vl vp h9 h16 0 u
theorem JA.rset_broken (h9 : J.told.length = 9) (h16 : J.next.length = 16) (n : Int) : (J.rcells vl vp).set 30 (.int .i64 n) = ({ J with broken := n } : JA).rcells vl vp := J.rset_tail vl vp h9 h16 1 _
end
theorem infoRJ : (Tryd.prog.info? 49).map (·.size) = some 31 := by kernel_rfl
def zRJ : List Value := [.int .i64 0, .int .i64 0, .int .i64 0, .slice none 0 0] ++ ((List.replicate 9 (0 : Int)).map iV ++ ((List.replicate 16 (0 : Int)).map iV ++ [.slice none 0 0, .int .i64 0]))
theorem zeroRJ (w : World) : (zeroValue 49).run Tryd.prog w = .ok (.agg zRJ.toArray) w := by kernel_rfl
theorem zRJ_len : zRJ.length = 31 := rfl
theorem rput_any {A : Nat → Prop} (w : World) (J : JA) (cs : List Value) (e : En) (h : RefAt w A J cs) (hl : J.put.length ≤ 1000000) :
    Calls Tryd.prog 24 #[.agg cs.toArray, e.v] w fun r w' => r = .returned (.bool (decide (e ∈ J.put))) ∧ Ext w w' := by
  obtain ⟨vl, vp, rfl, hvl, -, hvp, -, h9, h16⟩ := h
  obtain ⟨al, cl, rfl⟩ := hvl.len
  obtain ⟨ap, cp, rfl⟩ := hvp.len
  have HLEN := Lib.hid (J.rcells_len (.slice al J.T.l.length cl) (.slice ap J.put.length cp) h9 h16)
  have HONE := Lib.hid (J.rcells_one al ap J.T.l.length cl J.put.length cp)
  obtain ⟨-, -, -, -, -, -, c29, -⟩ := J.rat (.slice al J.T.l.length cl) (.slice ap J.put.length cp) h9 h16
  obtain ⟨cs, hcs⟩ : ∃ cs, J.rcells (.slice al J.T.l.length cl) (.slice ap J.put.length cp) = cs := ⟨_, rfl⟩
  rw [hcs] at c29 HLEN HONE ⊢
  obtain ⟨q, hq⟩ : ∃ q, J.put = q := ⟨_, rfl⟩
  rw [hq] at c29 hvp hl ⊢
  have HV := Lib.hid hvp
  have HL := Lib.hid hl
  have HM := Lib.hid (Mem.start0 w)
  have HEV := Lib.hid (show e.v = .agg #[.int .i64 e.kind, .int .i64 e.member, .int .i64 e.number, .string (bs e.text)] from rfl)
  rw [HEV.out]
  clear hvl hvp hl h9 h16 hcs hq
  go_enter Tryd.func24, Tryd.ntmps24
  have fM := HM.out.facts
  simp only [seeS, talkR_tag, rowR_tag] at fM
  go_wp2_with (first
    | ((with_reducible refine at_list ?_); first
      | ((with_reducible refine at_load 49 _ rfl ?_); refine mem_load_wide 49 _ rfl rfl rfl (by with_reducible repeat first | exact HM.out | exact ph | apply pt | apply Mem.drew | apply Mem.alloc | apply Mem.set | apply Mem.allocO | (simp only [World.size_alloc, World.size_setCell, World.size_drew]; rfl) | rfl) (by with_reducible repeat first | exact ph | apply pt) Tryd.underlying49 rfl (infoRJ.trans (congrArg some (Eq.symm (by first | rfl | exact HLEN.out | exact HLEN1.out | (simp only [List.length_set]; first | exact HLEN.out | exact HLEN1.out))))) ?_)
      | ((first
        | ((with_reducible refine at_store 49 _ _ rfl ?_); refine mem_store_wide 49 _ _ rfl rfl rfl rfl (by with_reducible repeat first | exact HM.out | exact ph | apply pt | apply Mem.drew | apply Mem.alloc | apply Mem.set | apply Mem.allocO | (simp only [World.size_alloc, World.size_setCell, World.size_drew]; rfl) | rfl) (by with_reducible repeat first | exact ph | apply pt) infoRJ (by first | rfl | exact HLEN.out | exact HLEN1.out | (simp only [List.length_set]; first | exact HLEN.out | exact HLEN1.out)) (by first | rfl | exact HLEN.out | exact HLEN1.out | (simp only [List.length_set]; first | exact HLEN.out | exact HLEN1.out)) (by (repeat refine one_set ?_ rfl _); first | exact HONE.out | exact HONE1.out) ?_; intro w9 M)
        | ((with_reducible refine at_box 49 _ rfl ?_); refine mem_box_wide 49 _ rfl rfl rfl (by with_reducible repeat first | exact HM.out | exact ph | apply pt | apply Mem.drew | apply Mem.alloc | apply Mem.set | apply Mem.allocO | (simp only [World.size_alloc, World.size_setCell, World.size_drew]; rfl) | rfl) ?_; intro w9 n9 M)
        | ((with_reducible refine at_alloc 49 rfl ?_); refine mem_alloc_wide 49 rfl rfl (zeroRJ _) (by with_reducible repeat first | exact HM.out | exact ph | apply pt | apply Mem.drew | apply Mem.alloc | apply Mem.set | apply Mem.allocO | (simp only [World.size_alloc, World.size_setCell, World.size_drew]; rfl) | rfl) ?_; intro w9 n9 M)); (try simp only [List.set_cons_zero, List.set_cons_succ] at M); replace HM := Lib.hid M; clear M; clear fM; have fM := HM.out.facts; simp only [seeS, talkR_tag, rowR_tag] at fM)))
  all_goals clear fM
  first | apply Mem.call | apply Mem.postD | apply Mem.stop | apply Mem.toUpd | apply Mem.list | apply Mem.code | apply Mem.post | apply Mem.postM
  · with_reducible repeat first | exact HM.out | exact ph | apply pt | apply Mem.drew | apply Mem.alloc | apply Mem.set | apply Mem.allocO | (simp only [World.size_alloc, World.size_setCell, World.size_drew]; rfl) | rfl
  intro w0 M
  try simp only [List.set_cons_zero, List.set_cons_succ] at M
  replace HM := Lib.hid M
  clear M
  go_loopw [5] (fun i wr => ∃ k : Nat, k ≤ q.length ∧ i = .int .i64 k ∧ Hid (∀ j (hj : j < q.length), j < k → q[j] ≠ e) ∧ Hid (Mem NoB w wr [cellsR n9 49 cs, cellsR w9.heap.size 35 [.int .i64 e.kind, .int .i64 e.member, .int .i64 e.number, .string (bs e.text)]])) (fun i _ => q.length - (intOf i).toNat)
  case atStart =>
    refine ⟨0, Nat.zero_le _, rfl, Lib.hid fun j _ h => absurd h (by omega), Lib.hid ?_⟩
    exact Mem.sub HM.out (by repeat first | exact Sub.nil | refine Sub.cons (by with_reducible repeat first | exact ph | apply pt) ?_)
  case round =>
    obtain ⟨k, hk, rfl, HP, HM⟩ := hrel
    by_cases hlt : k < q.length
    · obtain ⟨g, o, rfl, hg, hx⟩ := (HV.out.ext HM.out.extTo).at k hlt
      obtain ⟨x, hxe⟩ : ∃ x, q[k] = x := ⟨_, rfl⟩
      rw [hxe] at hx
      have d0 : wr.cell? ⟨g, o + k * 4, none⟩ = some (.int .i64 x.kind) := hx 0 (by decide)
      have d1 : wr.cell? ⟨g, o + k * 4 + 1, none⟩ = some (.int .i64 x.member) := hx 1 (by decide)
      have d2 : wr.cell? ⟨g, o + k * 4 + 2, none⟩ = some (.int .i64 x.number) := hx 2 (by decide)
      have d3 : wr.cell? ⟨g, o + k * 4 + 3, none⟩ = some (.string (bs x.text)) := hx 3 (by decide)
      have HXE := Lib.hid hxe
      have HK := Lib.hid hlt
      have g1 : (k : Int) < (q.length : Int) := by omega
      have g2 : ¬ (k : Int) < 0 := by omega
      have g3 : (k : Int) < 1000000 := by have := HL.out; omega
      have hq := fun W => eq_en x e W
      clear hx hxe
      by_cases hd : x = e
      · rw [decide_eq_true hd] at hq
        have HD := Lib.hid hd
        clear hd
        have fM := HM.out.facts
        simp only [seeS, talkR_tag, rowR_tag] at fM
        go_wp2_with fail
        have hE0 : Keeps NoB wr wr.drew := (Keeps.refl _ _).drew
        refine wp_region_plan [(0, 0), (3, 1), (0, 2), (0, 3), (3, 4), (3, 5), (0, 6)] [] [] [] (ClsE wr) (by kernel_rfl) (by kernel_rfl) (by kernel_rfl) rfl rfl (ClsE.of hE0) (fun _ _ _ d _ h => by cases d <;> exact h) ?_; simp only [planL, List.getElem?_toArray, List.getElem?_cons_succ, List.getElem?_cons_zero]
        refine plan_pure rfl (fun K hK => quiet_run (v := ?_) (fun W _ => ?_) (hK _ ?_)); rotate_left; (go_simp <;> with_reducible rfl); clear hK K; simp only [nP]
        refine plan_exact rfl (fun K hK => quiet_runX (v := ?_) ?_ (hK _ ?_)); rotate_left; (go_simp <;> with_reducible rfl); clear hK K; simp only [nP]
        refine plan_pure rfl (fun K hK => quiet_move' _ rfl (hK _ ?_)); clear hK K; simp only [nP, nE]
        refine plan_pure rfl (fun K hK => quiet_run (v := ?_) (fun W _ => ?_) (hK _ ?_)); rotate_left; (go_simp <;> with_reducible rfl); clear hK K; simp only [nP]
        refine plan_exact rfl (fun K hK => quiet_runX (v := ?_) ?_ (hK _ ?_)); rotate_left; (go_simp <;> with_reducible rfl); clear hK K; simp only [nP]
        refine plan_exact rfl (fun K hK => quiet_runX (v := ?_) ?_ (hK _ ?_)); rotate_left; (go_simp <;> with_reducible rfl); clear hK K; simp only [nP]
        refine plan_pure rfl (fun K hK => quiet_run (v := ?_) (fun W _ => ?_) (hK _ ?_)); rotate_left; (go_simp <;> with_reducible rfl); clear hK K; simp only [nP]
        refine plan_nil ?_; simp only [tailL, List.filterMap_nil]
        go_wp2_with fail
        clear fM
        go_ret
        refine ⟨?_, ?_⟩
        · rw [decide_eq_true (show e ∈ q by rw [← HD.out, ← HXE.out]; exact List.getElem_mem _)]; rfl
        · apply Mem.extTo
          with_reducible repeat first | exact HM.out | exact ph | apply pt | apply Mem.drew | apply Mem.alloc | apply Mem.set | apply Mem.allocO | (simp only [World.size_alloc, World.size_setCell, World.size_drew]; rfl) | rfl
      · rw [decide_eq_false hd] at hq
        have HD := Lib.hid hd
        clear hd
        have fM := HM.out.facts
        simp only [seeS, talkR_tag, rowR_tag] at fM
        go_wp2_with fail
        have hE0 : Keeps NoB wr wr.drew := (Keeps.refl _ _).drew
        refine wp_region_plan [(0, 0), (3, 1), (0, 2), (0, 3), (3, 4), (3, 5), (0, 6)] [] [] [] (ClsE wr) (by kernel_rfl) (by kernel_rfl) (by kernel_rfl) rfl rfl (ClsE.of hE0) (fun _ _ _ d _ h => by cases d <;> exact h) ?_; simp only [planL, List.getElem?_toArray, List.getElem?_cons_succ, List.getElem?_cons_zero]
        refine plan_pure rfl (fun K hK => quiet_run (v := ?_) (fun W _ => ?_) (hK _ ?_)); rotate_left; (go_simp <;> with_reducible rfl); clear hK K; simp only [nP]
        refine plan_exact rfl (fun K hK => quiet_runX (v := ?_) ?_ (hK _ ?_)); rotate_left; (go_simp <;> with_reducible rfl); clear hK K; simp only [nP]
        refine plan_pure rfl (fun K hK => quiet_move' _ rfl (hK _ ?_)); clear hK K; simp only [nP, nE]
        refine plan_pure rfl (fun K hK => quiet_run (v := ?_) (fun W _ => ?_) (hK _ ?_)); rotate_left; (go_simp <;> with_reducible rfl); clear hK K; simp only [nP]
        refine plan_exact rfl (fun K hK => quiet_runX (v := ?_) ?_ (hK _ ?_)); rotate_left; (go_simp <;> with_reducible rfl); clear hK K; simp only [nP]
        refine plan_exact rfl (fun K hK => quiet_runX (v := ?_) ?_ (hK _ ?_)); rotate_left; (go_simp <;> with_reducible rfl); clear hK K; simp only [nP]
        refine plan_pure rfl (fun K hK => quiet_run (v := ?_) (fun W _ => ?_) (hK _ ?_)); rotate_left; (go_simp <;> with_reducible rfl); clear hK K; simp only [nP]
        refine plan_nil ?_; simp only [tailL, List.filterMap_nil]
        go_wp2_with fail
        clear fM
        go_roundw
        case rel =>
          refine ⟨k + 1, by omega, by go_num, Lib.hid fun j hj h => ?_, Lib.hid ?_⟩
          · by_cases e : j = k
            · subst e; rw [HXE.out]; exact HD.out
            · exact HP.out j hj (by omega)
          · apply Mem.mem
            · skip
              with_reducible repeat first | exact HM.out | exact ph | apply pt | apply Mem.drew | apply Mem.alloc | apply Mem.set | apply Mem.allocO | (simp only [World.size_alloc, World.size_setCell, World.size_drew]; rfl) | rfl
            intro w8 M
            exact Mem.sub M (by repeat first | exact Sub.nil | refine Sub.cons (by with_reducible repeat first | exact ph | apply pt) ?_)
        case measure => simp [intOf]; omega
    · obtain rfl : k = q.length := by omega
      have HQ : Hid (decide (e ∈ q) = false) := Lib.hid (decide_eq_false fun hm => by
        obtain ⟨j, hj, hje⟩ := List.getElem_of_mem hm
        exact HP.out j hj hj hje)
      clear hlt hk
      have fM := HM.out.facts
      simp only [seeS, talkR_tag, rowR_tag] at fM
      go_wp2_with fail
      all_goals clear fM
      go_ret
      exact ⟨by rw [HQ.out]; rfl, HM.out.extTo⟩
end Go.Proofs.YthhdgjofagdjeaaDoor
end
