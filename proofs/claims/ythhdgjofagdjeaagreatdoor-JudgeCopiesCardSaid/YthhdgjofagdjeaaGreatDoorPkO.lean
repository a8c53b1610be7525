/- Texts YF, YG, YH, YI, one behind the other. Conditions: as each says. -/
import Derived.Test.YthhdgjofagdjeaaGreatDoorPkN
import Derived.Maps.RangeRun
import Derived.Laws.Externs
section
/- Sets of entries: maps.Equal and maps.Clone of them; which talks are the same. Conditions: they lie as 'EnSet', 'TalkX', 'RowAt' say. -/
set_option linter.unusedVariables false
set_option linter.unusedSimpArgs false
set_option maxHeartbeats 4000000
set_option maxRecDepth 100000
namespace Go.Proofs.YthhdgjofagdjeaaGreatDoor
open Go.RowKit Go.ChangeMaps
section
variable {w w' : World} {m : Nat} {D : List En}
theorem run_has (h : EnSet w m D) {e : En} (ha : OkE e) (c : Value) (hc : c = e.v) (d : Bool) (hd : decide (e ∈ D) = d) :
    (Instr.lookup 43 (.map (some m)) c true).run Tryz.prog w = .ok (.tuple #[.bool d, .bool d]) w := by
  subst hc hd
  obtain ⟨es, clock, h1, h2, h3, h4⟩ := h
  obtain ⟨l, hl⟩ := en_key ha
  rcases enset_find (w := w) h3 h4 ha with ⟨h5, h6⟩ | ⟨j, h5, h8, _⟩
  · simp [Instr.lookup, run_underlying Tryz.underlying43, Go.MapKept.run_getObj_map h1, en_law.check w _ hl, h5, zeroB, Result.andThen, h6]
  · have hm := List.mem_of_getElem? h8
    simp [Instr.lookup, run_underlying Tryz.underlying43, Go.MapKept.run_getObj_map h1, en_law.check w _ hl, h5, Result.andThen, hm]
theorem run_count (h : EnSet w m D) (ty : TypeId) : (Builtin.len_ #[43] ty #[.map (some m)]).run Tryz.prog w = .ok (.int .i64 (D.length : Int)) w := by
  obtain ⟨es, clock, h1, h2, h3, h4⟩ := h
  have hl : es.size = D.length := by simpa using congrArg List.length h3
  rw [← hl]
  simp [Builtin.len_, run_underlying Tryz.underlying43, Go.MapKept.run_getObj_map h1, Result.andThen]
  rfl
end
theorem setBlock_ne {w : World} {r i : Nat} (o : Obj) (hd : True) (h : ¬ OneB r i) : (setBlock w r o).heap[i]? = w.heap[i]? := by
  unfold setBlock
  simp only
  exact Array.getElem?_setIfInBounds_ne (fun e => h e.symm)
theorem setBlock_eq {w : World} {r : Nat} (h : r < w.heap.size) (o : Obj) : (setBlock w r o).heap[r]? = some o := by
  unfold setBlock
  simp [h]
def sameD (D1 D2 : List En) : Bool := decide (D1.length = D2.length) && D1.all fun p => decide (p ∈ D2)
theorem iterSeen_of {w : World} {r b c : Nat} {a : Option Nat} {s : Array Nat} (h : w.heap[r]? = some (.mapIter a b s c)) : w.iterSeen r = s := by unfold World.iterSeen; rw [h]
theorem left_none {es : Array MapEntry} {seen : Array Nat} (h : (leftOf es seen).size = 0) : ∀ x ∈ es.toList, seen.contains x.born = true := all_seen es seen h
set_option maxHeartbeats 4000000 in
theorem maps_equal (w : World) (m1 m2 : Nat) (D1 D2 : List En) (h1 : EnSet w m1 D1) (h2 : EnSet w m2 D2) (hn1 : D1.length ≤ 1000000) (hn2 : D2.length ≤ 1000000) :
    Calls Tryz.prog 36 #[.map (some m1), .map (some m2)] w fun e w' => e = .returned (.bool (sameD D1 D2)) ∧ Ext w w' := by
  have l1 := fun ty => run_count h1 ty
  have l2 := fun ty => run_count h2 ty
  have H1 := Lib.hid h1
  have H2 := Lib.hid h2
  have hm1 := h1.lt
  have hm2 := h2.lt
  by_cases hlen : D1.length = D2.length
  · have HS : Hid (sameD D1 D2 = D1.all fun p => decide (p ∈ D2)) := Lib.hid (by unfold sameD; rw [decide_eq_true hlen, Bool.true_and])
    obtain ⟨n, hn⟩ : ∃ n, D1.length = n := ⟨_, rfl⟩
    rw [hn] at l1
    have hn' : D2.length = n := by omega
    rw [hn'] at l2
    obtain ⟨es, clock, hb, hst, hes, hI⟩ := h1
    have hrg := run_range_map (P := Tryz.prog) w 43 _ _ m1 es clock Tryz.underlying43 hb
    have HB := Lib.hid hb
    have HST := Lib.hid hst
    have HES := Lib.hid hes
    have HI := Lib.hid hI
    clear hb hst hes hI h2 hlen hn hn'
    go_enter Tryz.func36, Tryz.ntmps36
    go_wp2_with fail
    have hw0 : Hid (Ext w (w.alloc (.mapIter (some m1) clock #[] clock))) := Lib.hid ((Keeps.refl _ _).alloc _)
    have hit : Hid ((w.alloc (.mapIter (some m1) clock #[] clock)).heap[w.heap.size]? = some (.mapIter (some m1) clock #[] clock)) := Lib.hid (World.alloc_heap_new w _)
    clear l1 l2 hrg
    go_loopw [] (fun wr => ∃ seen, Hid (Ext w wr) ∧ Hid (wr.heap[w.heap.size]? = some (.mapIter (some m1) clock seen clock)) ∧ Hid (∀ x ∈ es.toList, seen.contains x.born = true → ∀ p, x.key = p.v → p ∈ D2)) (fun wr => (leftOf es (wr.iterSeen w.heap.size)).size)
    case atStart => exact ⟨#[], hw0, hit, Lib.hid (fun x hx h => by simp at h)⟩
    case round =>
      obtain ⟨seen, HE, HIT, HP⟩ := hrel
      have hb := (HE.out.block m1 hm1 (noB _)).trans HB.out
      have hlw := HE.out.size
      rcases run_next_at (P := Tryz.prog) wr 0 w.heap.size m1 clock clock seen es clock HIT.out hb HST.out.1 (Nat.le_refl _) with ⟨h0, hrun⟩ | ⟨e, he, w1, hw1, hrun⟩
      · have hnx : ∀ ty, (Instr.next (.pointer (some ⟨w.heap.size, 0, none⟩)) false ty).run Tryz.prog wr = _ := fun _ => hrun
        have HL := Lib.hid h0
        clear hb h0 hrun
        go_wp2_with fail
        go_ret
        refine ⟨?_, HE.out⟩
        rw [HS.out]
        have hall : (D1.all fun p => decide (p ∈ D2)) = true := by
          rw [List.all_eq_true]
          intro p hp
          obtain ⟨j, hj, rfl⟩ := List.getElem_of_mem hp
          have hlen : es.toList.length = D1.length := by simpa using congrArg List.length HES.out
          have hx : es.toList[j]'(by omega) ∈ es.toList := List.getElem_mem _
          obtain ⟨q, hq, hk, -⟩ := enset_get HES.out (List.getElem?_eq_getElem (show j < es.toList.length by omega))
          rw [List.getElem?_eq_getElem hj] at hq
          cases hq
          exact decide_eq_true (HP.out _ hx (left_none HL.out _ hx) _ hk)
        rw [hall]; rfl
      · obtain ⟨hem, -⟩ := mem_left he
        obtain ⟨pe, hpm, hk, hv⟩ := enset_mem HES.out hem
        obtain ⟨pk', pm, pn, pt⟩ := pe
        have hI := HI.out _ hpm
        rw [hk, hv] at hrun
        have hit1 : w1.heap[w.heap.size]? = some (.mapIter (some m1) clock seen clock) := by rcases hw1 with rfl | rfl <;> exact HIT.out
        have hwr1 : Ext wr w1 := by rcases hw1 with rfl | rfl; exact Keeps.refl _ _; exact Ext.drew0 _
        have hk2 : Keeps (OneB w.heap.size) w1 (setBlock w1 w.heap.size (.mapIter (some m1) clock (seen.push e.born) clock)) := ⟨rfl, rfl, rfl, by simp [setBlock], fun i _ hi => setBlock_ne _ trivial hi⟩
        have hit2 := setBlock_eq (w := w1) (Array.getElem?_eq_some_iff.1 hit1).1 (.mapIter (some m1) clock (seen.push e.born) clock)
        have hnx : ∀ ty, (Instr.next (.pointer (some ⟨w.heap.size, 0, none⟩)) false ty).run Tryz.prog wr = .ok (.tuple #[.bool true, .agg #[.int .i64 pk', .int .i64 pm, .int .i64 pn, .string (bs pt)], .bool true]) (setBlock w1 w.heap.size (.mapIter (some m1) clock (seen.push e.born) clock)) := fun _ => hrun
        generalize setBlock w1 w.heap.size (.mapIter (some m1) clock (seen.push e.born) clock) = w2 at hk2 hit2 hnx
        have hE2 : Ext w w2 := (HE.out.ext hwr1).then hk2 (fun i hi h => by unfold OneB at h; omega)
        have hb2 := (hE2.block m1 hm1 (noB _)).trans HB.out
        have hen := run_entry_at (P := Tryz.prog) w2 w.heap.size m1 clock seen es clock e hit2 hb2 hem HST.out.2.1
        rw [hk, hv] at hen
        simp only [En.v] at hen
        have hE5 : Ext w2 (w2.alloc (Obj.cells #[.int .i64 pk', .int .i64 pm, .int .i64 pn, .string (bs pt)] 54)) := (Keeps.refl _ _).alloc _
        have hit5 := (hE5.block _ (Array.getElem?_eq_some_iff.1 hit2).1 (noB _)).trans hit2
        have hlt2 := hE2.size
        have hmeas := left_shrinks es seen e he
        have HME : Hid ((leftOf es ((w2.alloc (Obj.cells #[.int .i64 pk', .int .i64 pm, .int .i64 pn, .string (bs pt)] 54)).iterSeen w.heap.size)).size < (leftOf es (wr.iterSeen w.heap.size)).size) := Lib.hid (by rw [iterSeen_of hit5, iterSeen_of HIT.out]; exact hmeas)
        have HIT5 := Lib.hid hit5
        have HEE5 := Lib.hid (hE2.ext hE5)
        have HK := Lib.hid hk
        have HEM := Lib.hid hem
        have HPM := Lib.hid hpm
        cases hd : decide ((⟨pk', pm, pn, pt⟩ : En) ∈ D2) with
        | true =>
          have hlk := run_has (H2.out.ext HEE5.out) hI (.agg #[.int .i64 pk', .int .i64 pm, .int .i64 pn, .string (bs pt)]) rfl true hd
          have hmem := of_decide_eq_true hd
          have HP5 : Hid (∀ x ∈ es.toList, (seen.push e.born).contains x.born = true → ∀ p, x.key = p.v → p ∈ D2) := Lib.hid (fun x hx hc p hp => by
            rw [contains_push] at hc
            rcases Bool.or_eq_true _ _ ▸ hc with h1 | h1
            · exact HP.out x hx h1 p hp
            · have : x = e := born_inj HST.out.2.1 hx HEM.out (beq_iff_eq.1 h1)
              subst this
              have := En.v_inj (HK.out.symm.trans hp)
              rw [← this]; exact hmem)
          clear hrun hk2 hit2 hit5 hE2 hE5 hb2 hb hk hv hem hpm hit1 hwr1 hw1 HP hd hmem hmeas he
          go_wp2_with fail
          go_roundw
          case rel => exact ⟨seen.push e.born, HEE5, HIT5, HP5⟩
          case measure => exact HME.out
        | false =>
          have hlk := run_has (H2.out.ext HEE5.out) hI (.agg #[.int .i64 pk', .int .i64 pm, .int .i64 pn, .string (bs pt)]) rfl false hd
          have HD := Lib.hid (of_decide_eq_false hd)
          clear hrun hk2 hit2 hit5 hE2 hE5 hb2 hb hk hv hem hpm hit1 hwr1 hw1 HP hd hmeas he HME
          go_wp2_with fail
          go_ret
          refine ⟨?_, HEE5.out⟩
          have hall : (D1.all fun p => decide (p ∈ D2)) = false := by
            rw [List.all_eq_false]
            exact ⟨(⟨pk', pm, pn, pt⟩ : En), HPM.out, by simpa using HD.out⟩
          rw [HS.out, hall]; rfl
  · have HS : Hid (sameD D1 D2 = false) := Lib.hid (by unfold sameD; rw [decide_eq_false hlen, Bool.false_and])
    have hne : ¬ ((D1.length : Int) = (D2.length : Int)) := by omega
    clear h1 h2 hlen
    go_enter Tryz.func36, Tryz.ntmps36
    go_wp2_with fail
    go_ret
    exact ⟨by rw [HS.out]; rfl, Keeps.refl _ _⟩
theorem eq_mapnil (w : World) (m : Nat) : (binOp .eql 43 (.map (some m)) (.map none)).run Tryz.prog w = .ok (.bool false) w := by kernel_rfl
theorem run_mclone (w : World) (r : Nat) (es : Array MapEntry) (clock : Nat) (t : TypeId) (hb : w.heap[r]? = some (.map es clock)) :
    (Extern.MapsClone.clone #[.iface t (.map (some r))]).run Tryz.prog w = .ok (.iface t (.map (some w.heap.size))) (w.alloc (.map es clock)) := by
  have e : Extern.MapsClone.clone #[.iface t (.map (some r))] = (getObj r >>= fun o => match o with
      | .map entries clock => (newObj (.map entries clock) >>= fun n => pure (.iface t (.map (some n))))
      | _ => stuck "maps.clone: a map expected") := rfl
  rw [e]
  simp [Go.MapKept.run_getObj_map hb, Result.andThen, go_sem]
theorem run_tassert (w : World) (v : Value) (xT : TypeId) : (Instr.typeAssert (.iface 43 v) xT 43 false).run Tryz.prog w = .ok v w := by
  simp [Instr.typeAssert, run_underlying Tryz.underlying43, go_sem, Result.andThen]
theorem maps_clone (w : World) (m : Nat) (D : List En) (h : EnSet w m D) :
    Calls Tryz.prog 34 #[.map (some m)] w fun e w' => e = .returned (.map (some w.heap.size)) ∧ EnSet w' w.heap.size D ∧ Ext w w' := by
  have H := Lib.hid h
  obtain ⟨es, clock, hb, hst, hes, hI⟩ := h
  have hq := eq_mapnil w m
  have HB := Lib.hid hb
  have HX : Hid (EnSet (w.alloc (.map es clock)) w.heap.size D) := Lib.hid ⟨es, clock, World.alloc_heap_new w _, hst, hes, hI⟩
  clear hst hes hI hb
  go_enter Tryz.func34, Tryz.ntmps34
  go_wp2_with fail
  rw [run_callFunc_extern Tryz.func59 (by kernel_rfl) (by kernel_rfl) (by kernel_rfl) (e := Extern.MapsClone.clone) (by kernel_rfl), run_mclone w m es clock 43 HB.out]
  simp only [Result.andThen]
  rw [Oper.upon_value]
  go_wp2_with fail
  rw [run_tassert]
  simp only [Result.andThen]
  rw [Oper.upon_value]
  go_wp2_with fail
  go_ret
  exact ⟨rfl, HX.out, (Keeps.refl _ _).alloc _⟩

def sameT (S T : TA) : Bool := decide (S.slot = T.slot) && decide (S.l = T.l)
theorem sameT_st {S T : TA} (hS : S.Ok) (hT : T.Ok) (h : S.l = T.l) : S.st = T.st := by
  obtain ⟨a1, a2⟩ := hS
  obtain ⟨b1, b2⟩ := hT
  apply List.ext_getElem?
  intro i
  by_cases hi : i < 16
  · have e1 := a2 i hi
    have e2 := b2 i hi
    rw [h, ← e2] at e1
    unfold TA.of at e1
    rw [List.getD_eq_getElem?_getD, List.getD_eq_getElem?_getD, List.getElem?_eq_getElem (by omega), List.getElem?_eq_getElem (by omega)] at e1
    rw [List.getElem?_eq_getElem (by omega), List.getElem?_eq_getElem (by omega)]
    simpa using e1
  · rw [List.getElem?_eq_none (by omega), List.getElem?_eq_none (by omega)]
end Go.Proofs.YthhdgjofagdjeaaGreatDoor
end
section
/- Which talks and judges are the same, as chat.Same, judge.Same tell it. Conditions: they lie as 'TalkX', 'JudgeX' say, and are such as came by things seen. -/
set_option linter.unusedVariables false
set_option linter.unusedSimpArgs false
set_option maxHeartbeats 4000000
set_option maxRecDepth 100000
namespace Go.Proofs.YthhdgjofagdjeaaGreatDoor
open Go.RowKit
section
variable {P : Program} {o : Oper} {a : Act} {w : World}
theorem elM {b k : Nat} {v : Value} (ty : TypeId) (x : Operand) (ho : o.op = .load ty x) (hx : a.eval x = .pointer (some ⟨b, k, none⟩)) (h : (Instr.loadAt ty (.pointer (some ⟨b, k, none⟩))).run P w = .ok v w) : (execOp a.eval o).run P w = .ok (.value v) w := by
  simp [execOp, ho, hx, Result.andThen, h]
end
theorem info16 : (Tryz.prog.info? 96).map (·.size) = some 48 := by kernel_rfl
theorem TA.sts (T : TA) (v : Value) (h : T.st.length = 16) : ((T.cells v).drop 2).take 48 = stsC T.st := by
  have hl := stsC_len T.st
  unfold TA.cells
  show (stsC T.st ++ [Value.bool true]).take 48 = _
  rw [List.take_append_of_le_length (by omega), List.take_of_length_le (by omega)]
theorem eqIn_sts (S T : List St) (hS : S.length = 16) (hT : T.length = 16) (W : World) : (Op.equalIn 10000 96 (.agg (stsC S).toArray) (.agg (stsC T).toArray)).run Tryz.prog W = .ok (decide (S = T)) W :=
  equal_rows (d := 9999) (sz := 3) St.cells (fun _ => rfl) S T Tryz.underlying96 Tryz.underlying95 rfl (by kernel_rfl) hS hT W (fun x y => eqIn_st x y W)
theorem TalkAt.rowL {F : Nat → Prop} {w : World} {b : Nat} {v : Value} {T : TA} (h : TalkAt w F b v T) : RowAt lnE w 0 v T.l := by
  unfold RowAt; rw [lnE_row]; exact h.win
theorem chat_same {F G : Nat → Prop} (w : World) (b c : Nat) (S T : TA) (hS : TalkX w F b S) (hT : TalkX w G c T) (oS : S.Ok) (oT : T.Ok) (lS : S.l.length ≤ 4096) (lT : T.l.length ≤ 4096) :
    Calls Tryz.prog 35 #[.pointer (some ⟨b, 0, none⟩), .pointer (some ⟨c, 0, none⟩)] w fun e w' => e = .returned (.bool (sameT S T)) ∧ Ext w w' := by
  have HSX := Lib.hid hS
  have HTX := Lib.hid hT
  obtain ⟨v, hS⟩ := hS
  obtain ⟨v', hT⟩ := hT
  have HR1 := Lib.hid hS.rowL
  have HR2 := Lib.hid hT.rowL
  have HL1 := Lib.hid lS
  have HL2 := Lib.hid lT
  obtain ⟨c0, c1, -, lt⟩ := hS.see
  obtain ⟨f0, f1, -, lt'⟩ := hT.see
  have hl1 := stsC_len S.st
  have hl2 := stsC_len T.st
  have hq := fun W => eqIn_sts S.st T.st hS.sts hT.sts W
  have hq' := fun W => eql_of (eqIn_sts S.st T.st hS.sts hT.sts W)
  have h1 : ∀ W, Ext w W → (Instr.loadAt 96 (.pointer (some ⟨b, 2, none⟩))).run Tryz.prog W = .ok (.agg (stsC S.st).toArray) W := fun W hW => load_mid (hS.box.ext hW) (S.sts v hS.sts) (by rw [hl1, hS.sts]) Tryz.underlying96 rfl info16
  have h2 : ∀ W, Ext w W → (Instr.loadAt 96 (.pointer (some ⟨c, 2, none⟩))).run Tryz.prog W = .ok (.agg (stsC T.st).toArray) W := fun W hW => load_mid (hT.box.ext hW) (T.sts v' hT.sts) (by rw [hl2, hT.sts]) Tryz.underlying96 rfl info16
  obtain ⟨cs1, hcs1⟩ : ∃ cs1, stsC S.st = cs1 := ⟨_, rfl⟩
  obtain ⟨cs2, hcs2⟩ : ∃ cs2, stsC T.st = cs2 := ⟨_, rfl⟩
  rw [hcs1] at hq hq' h1
  rw [hcs2] at hq hq' h2
  have H1 := Lib.hid h1
  have H2 := Lib.hid h2
  obtain ⟨n1, hn1⟩ : ∃ n1, S.slot = n1 := ⟨_, rfl⟩
  obtain ⟨n2, hn2⟩ : ∃ n2, T.slot = n2 := ⟨_, rfl⟩
  rw [hn1] at c1
  rw [hn2] at f1
  have HOS := Lib.hid oS
  have HOT := Lib.hid oT
  clear hS hT lS lT hl1 hl2 h1 h2 hcs1 hcs2 oS oT
  by_cases e1 : n1 = n2
  case neg =>
    have HQ := Lib.hid (show sameT S T = false by unfold sameT; rw [decide_eq_false (by rw [hn1, hn2]; exact e1), Bool.false_and])
    have e1' : (n1 == n2) = false := by simpa using e1
    clear e1 hn1 hn2
    go_enter Tryz.func35, Tryz.ntmps35
    go_wp2_with fail
    refine (talk_none w b S HSX.out).mono ?_
    rintro e w1 ⟨rfl, rfl⟩
    go_wp2_with fail
    refine (talk_none w1 c T HTX.out).mono ?_
    rintro e w2 ⟨rfl, rfl⟩
    go_wp2_with fail
    have hE0 : Keeps NoB w2 w2.drew := (Keeps.refl _ _).drew
    refine wp_region_plan [(0, 0), (0, 1), (0, 2), (3, 3), (0, 4), (0, 5), (0, 6), (3, 7), (0, 8), (0, 9), (0, 10), (0, 11), (0, 12), (3, 13), (0, 14), (0, 15), (0, 16), (3, 17), (0, 18), (0, 19), (0, 20), (0, 21), (0, 22), (0, 23), (3, 24), (0, 25), (0, 26), (0, 27), (3, 28)] [] [29, 30, 31] [29, 30, 31] (ClsE w2) (by kernel_rfl) (by kernel_rfl) (by kernel_rfl) rfl rfl (ClsE.of hE0) (fun _ _ _ d _ h => by cases d <;> exact h) ?_; simp only [planL, nL]
    refine pM _ rfl rfl ?_; simp only [nP, nE]
    iterate 2 (refine pR (v := ?_) rfl (fun W => ?_) ?_; rotate_left; (go_simp <;> with_reducible rfl); simp only [nP])
    refine pX (v := ?_) rfl ?_ ?_; rotate_left; (go_simp <;> with_reducible rfl); simp only [nP]
    refine pM _ rfl rfl ?_; simp only [nP, nE]
    iterate 2 (refine pR (v := ?_) rfl (fun W => ?_) ?_; rotate_left; (go_simp <;> with_reducible rfl); simp only [nP])
    refine pX (v := ?_) rfl ?_ ?_; rotate_left; (go_simp <;> with_reducible rfl); simp only [nP]
    refine pR (v := ?_) rfl (fun W => ?_) ?_; rotate_left; (go_simp <;> with_reducible rfl); simp only [nP]
    refine pM _ rfl rfl ?_; simp only [nP, nE]
    (first | (refine plan_skip rfl ?_; simp only [nP]) | (refine pM _ rfl rfl ?_; simp only [nP, nE]))
    iterate 2 ((first | (refine plan_skip rfl ?_; simp only [nP]) | (refine pR (v := ?_) rfl (fun W => ?_) ?_; rotate_left; (go_simp <;> with_reducible rfl); simp only [nP])))
    (first | (refine plan_skip rfl ?_; simp only [nP]) | (refine pX (v := .agg cs1.toArray) rfl (elM 96 _ rfl rfl (H1.out _ (Ext.drew0 w2))) ?_; simp only [nP]))
    (first | (refine plan_skip rfl ?_; simp only [nP]) | (refine pM _ rfl rfl ?_; simp only [nP, nE]))
    iterate 2 ((first | (refine plan_skip rfl ?_; simp only [nP]) | (refine pR (v := ?_) rfl (fun W => ?_) ?_; rotate_left; (go_simp <;> with_reducible rfl); simp only [nP])))
    (first | (refine plan_skip rfl ?_; simp only [nP]) | (refine pX (v := .agg cs2.toArray) rfl (elM 96 _ rfl rfl (H2.out _ (Ext.drew0 w2))) ?_; simp only [nP]))
    (first | (refine plan_skip rfl ?_; simp only [nP]) | (refine pR (v := ?_) rfl (fun W => ?_) ?_; rotate_left; (go_simp <;> with_reducible rfl); simp only [nP]))
    refine pR (v := ?_) rfl (fun W => ?_) ?_; rotate_left; (go_simp <;> with_reducible rfl); simp only [nP]
    refine pM _ rfl rfl ?_; simp only [nP, nE]
    (first | (refine plan_skip rfl ?_; simp only [nP]) | (refine pM _ rfl rfl ?_; simp only [nP, nE]))
    iterate 2 ((first | (refine plan_skip rfl ?_; simp only [nP]) | (refine pR (v := ?_) rfl (fun W => ?_) ?_; rotate_left; (go_simp <;> with_reducible rfl); simp only [nP])))
    (first | (refine plan_skip rfl ?_; simp only [nP]) | (refine pX (v := ?_) rfl ?_ ?_; rotate_left; (go_simp <;> with_reducible rfl); simp only [nP]))
    (first | (refine plan_skip rfl ?_; simp only [nP]) | (refine pM _ rfl rfl ?_; simp only [nP, nE]))
    iterate 2 ((first | (refine plan_skip rfl ?_; simp only [nP]) | (refine pR (v := ?_) rfl (fun W => ?_) ?_; rotate_left; (go_simp <;> with_reducible rfl); simp only [nP])))
    (first | (refine plan_skip rfl ?_; simp only [nP]) | (refine pX (v := ?_) rfl ?_ ?_; rotate_left; (go_simp <;> with_reducible rfl); simp only [nP]))
    refine plan_nil ?_; simp only [tailL, List.filterMap_cons, List.filterMap_nil, nL]; change wpList _ _ _ (_ :: _ :: _ :: []) _ _
    go_wp2_with fail
    go_ret
    exact ⟨by rw [HQ.out]; rfl, by assumption⟩
  case pos =>
    by_cases e2 : S.st = T.st
    case neg =>
      have HQ := Lib.hid (show sameT S T = false by unfold sameT; rw [decide_eq_false (fun h => e2 (sameT_st HOS.out HOT.out h)), Bool.and_false])
      simp only [decide_eq_false e2] at hq hq'
      subst e1
      clear e2 hn1 hn2
      go_enter Tryz.func35, Tryz.ntmps35
      go_wp2_with fail
      refine (talk_none w b S HSX.out).mono ?_
      rintro e w1 ⟨rfl, rfl⟩
      go_wp2_with fail
      refine (talk_none w1 c T HTX.out).mono ?_
      rintro e w2 ⟨rfl, rfl⟩
      go_wp2_with fail
      have hE0 : Keeps NoB w2 w2.drew := (Keeps.refl _ _).drew
      refine wp_region_plan [(0, 0), (0, 1), (0, 2), (3, 3), (0, 4), (0, 5), (0, 6), (3, 7), (0, 8), (0, 9), (0, 10), (0, 11), (0, 12), (3, 13), (0, 14), (0, 15), (0, 16), (3, 17), (0, 18), (0, 19), (0, 20), (0, 21), (0, 22), (0, 23), (3, 24), (0, 25), (0, 26), (0, 27), (3, 28)] [] [29, 30, 31] [29, 30, 31] (ClsE w2) (by kernel_rfl) (by kernel_rfl) (by kernel_rfl) rfl rfl (ClsE.of hE0) (fun _ _ _ d _ h => by cases d <;> exact h) ?_; simp only [planL, nL]
      refine pM _ rfl rfl ?_; simp only [nP, nE]
      iterate 2 (refine pR (v := ?_) rfl (fun W => ?_) ?_; rotate_left; (go_simp <;> with_reducible rfl); simp only [nP])
      refine pX (v := ?_) rfl ?_ ?_; rotate_left; (go_simp <;> with_reducible rfl); simp only [nP]
      refine pM _ rfl rfl ?_; simp only [nP, nE]
      iterate 2 (refine pR (v := ?_) rfl (fun W => ?_) ?_; rotate_left; (go_simp <;> with_reducible rfl); simp only [nP])
      refine pX (v := ?_) rfl ?_ ?_; rotate_left; (go_simp <;> with_reducible rfl); simp only [nP]
      refine pR (v := ?_) rfl (fun W => ?_) ?_; rotate_left; (go_simp <;> with_reducible rfl); simp only [nP]
      refine pM _ rfl rfl ?_; simp only [nP, nE]
      (first | (refine plan_skip rfl ?_; simp only [nP]) | (refine pM _ rfl rfl ?_; simp only [nP, nE]))
      iterate 2 ((first | (refine plan_skip rfl ?_; simp only [nP]) | (refine pR (v := ?_) rfl (fun W => ?_) ?_; rotate_left; (go_simp <;> with_reducible rfl); simp only [nP])))
      (first | (refine plan_skip rfl ?_; simp only [nP]) | (refine pX (v := .agg cs1.toArray) rfl (elM 96 _ rfl rfl (H1.out _ (Ext.drew0 w2))) ?_; simp only [nP]))
      (first | (refine plan_skip rfl ?_; simp only [nP]) | (refine pM _ rfl rfl ?_; simp only [nP, nE]))
      iterate 2 ((first | (refine plan_skip rfl ?_; simp only [nP]) | (refine pR (v := ?_) rfl (fun W => ?_) ?_; rotate_left; (go_simp <;> with_reducible rfl); simp only [nP])))
      (first | (refine plan_skip rfl ?_; simp only [nP]) | (refine pX (v := .agg cs2.toArray) rfl (elM 96 _ rfl rfl (H2.out _ (Ext.drew0 w2))) ?_; simp only [nP]))
      (first | (refine plan_skip rfl ?_; simp only [nP]) | (refine pR (v := ?_) rfl (fun W => ?_) ?_; rotate_left; (go_simp <;> with_reducible rfl); simp only [nP]))
      refine pR (v := ?_) rfl (fun W => ?_) ?_; rotate_left; (go_simp <;> with_reducible rfl); simp only [nP]
      refine pM _ rfl rfl ?_; simp only [nP, nE]
      (first | (refine plan_skip rfl ?_; simp only [nP]) | (refine pM _ rfl rfl ?_; simp only [nP, nE]))
      iterate 2 ((first | (refine plan_skip rfl ?_; simp only [nP]) | (refine pR (v := ?_) rfl (fun W => ?_) ?_; rotate_left; (go_simp <;> with_reducible rfl); simp only [nP])))
      (first | (refine plan_skip rfl ?_; simp only [nP]) | (refine pX (v := ?_) rfl ?_ ?_; rotate_left; (go_simp <;> with_reducible rfl); simp only [nP]))
      (first | (refine plan_skip rfl ?_; simp only [nP]) | (refine pM _ rfl rfl ?_; simp only [nP, nE]))
      iterate 2 ((first | (refine plan_skip rfl ?_; simp only [nP]) | (refine pR (v := ?_) rfl (fun W => ?_) ?_; rotate_left; (go_simp <;> with_reducible rfl); simp only [nP])))
      (first | (refine plan_skip rfl ?_; simp only [nP]) | (refine pX (v := ?_) rfl ?_ ?_; rotate_left; (go_simp <;> with_reducible rfl); simp only [nP]))
      refine plan_nil ?_; simp only [tailL, List.filterMap_cons, List.filterMap_nil, nL]; change wpList _ _ _ (_ :: _ :: _ :: []) _ _
      go_wp2_with fail
      go_ret
      exact ⟨by rw [HQ.out]; rfl, by assumption⟩
    case pos =>
      have HQ := Lib.hid (show sameT S T = decide (S.l = T.l) by unfold sameT; rw [decide_eq_true (by rw [hn1, hn2]; exact e1), Bool.true_and])
      simp only [decide_eq_true e2] at hq hq'
      subst e1
      clear e2 hn1 hn2
      go_enter Tryz.func35, Tryz.ntmps35
      go_wp2_with fail
      refine (talk_none w b S HSX.out).mono ?_
      rintro e w1 ⟨rfl, rfl⟩
      go_wp2_with fail
      refine (talk_none w1 c T HTX.out).mono ?_
      rintro e w2 ⟨rfl, rfl⟩
      go_wp2_with fail
      have hE0 : Keeps NoB w2 w2.drew := (Keeps.refl _ _).drew
      refine wp_region_plan [(0, 0), (0, 1), (0, 2), (3, 3), (0, 4), (0, 5), (0, 6), (3, 7), (0, 8), (0, 9), (0, 10), (0, 11), (0, 12), (3, 13), (0, 14), (0, 15), (0, 16), (3, 17), (0, 18), (0, 19), (0, 20), (0, 21), (0, 22), (0, 23), (3, 24), (0, 25), (0, 26), (0, 27), (3, 28)] [] [29, 30, 31] [29, 30, 31] (ClsE w2) (by kernel_rfl) (by kernel_rfl) (by kernel_rfl) rfl rfl (ClsE.of hE0) (fun _ _ _ d _ h => by cases d <;> exact h) ?_; simp only [planL, nL]
      refine pM _ rfl rfl ?_; simp only [nP, nE]
      iterate 2 (refine pR (v := ?_) rfl (fun W => ?_) ?_; rotate_left; (go_simp <;> with_reducible rfl); simp only [nP])
      refine pX (v := ?_) rfl ?_ ?_; rotate_left; (go_simp <;> with_reducible rfl); simp only [nP]
      refine pM _ rfl rfl ?_; simp only [nP, nE]
      iterate 2 (refine pR (v := ?_) rfl (fun W => ?_) ?_; rotate_left; (go_simp <;> with_reducible rfl); simp only [nP])
      refine pX (v := ?_) rfl ?_ ?_; rotate_left; (go_simp <;> with_reducible rfl); simp only [nP]
      refine pR (v := ?_) rfl (fun W => ?_) ?_; rotate_left; (go_simp <;> with_reducible rfl); simp only [nP]
      refine pM _ rfl rfl ?_; simp only [nP, nE]
      (first | (refine plan_skip rfl ?_; simp only [nP]) | (refine pM _ rfl rfl ?_; simp only [nP, nE]))
      iterate 2 ((first | (refine plan_skip rfl ?_; simp only [nP]) | (refine pR (v := ?_) rfl (fun W => ?_) ?_; rotate_left; (go_simp <;> with_reducible rfl); simp only [nP])))
      (first | (refine plan_skip rfl ?_; simp only [nP]) | (refine pX (v := .agg cs1.toArray) rfl (elM 96 _ rfl rfl (H1.out _ (Ext.drew0 w2))) ?_; simp only [nP]))
      (first | (refine plan_skip rfl ?_; simp only [nP]) | (refine pM _ rfl rfl ?_; simp only [nP, nE]))
      iterate 2 ((first | (refine plan_skip rfl ?_; simp only [nP]) | (refine pR (v := ?_) rfl (fun W => ?_) ?_; rotate_left; (go_simp <;> with_reducible rfl); simp only [nP])))
      (first | (refine plan_skip rfl ?_; simp only [nP]) | (refine pX (v := .agg cs2.toArray) rfl (elM 96 _ rfl rfl (H2.out _ (Ext.drew0 w2))) ?_; simp only [nP]))
      (first | (refine plan_skip rfl ?_; simp only [nP]) | (refine pR (v := ?_) rfl (fun W => ?_) ?_; rotate_left; (go_simp <;> with_reducible rfl); simp only [nP]))
      refine pR (v := ?_) rfl (fun W => ?_) ?_; rotate_left; (go_simp <;> with_reducible rfl); simp only [nP]
      refine pM _ rfl rfl ?_; simp only [nP, nE]
      (first | (refine plan_skip rfl ?_; simp only [nP]) | (refine pM _ rfl rfl ?_; simp only [nP, nE]))
      iterate 2 ((first | (refine plan_skip rfl ?_; simp only [nP]) | (refine pR (v := ?_) rfl (fun W => ?_) ?_; rotate_left; (go_simp <;> with_reducible rfl); simp only [nP])))
      (first | (refine plan_skip rfl ?_; simp only [nP]) | (refine pX (v := ?_) rfl ?_ ?_; rotate_left; (go_simp <;> with_reducible rfl); simp only [nP]))
      (first | (refine plan_skip rfl ?_; simp only [nP]) | (refine pM _ rfl rfl ?_; simp only [nP, nE]))
      iterate 2 ((first | (refine plan_skip rfl ?_; simp only [nP]) | (refine pR (v := ?_) rfl (fun W => ?_) ?_; rotate_left; (go_simp <;> with_reducible rfl); simp only [nP])))
      (first | (refine plan_skip rfl ?_; simp only [nP]) | (refine pX (v := ?_) rfl ?_ ?_; rotate_left; (go_simp <;> with_reducible rfl); simp only [nP]))
      refine plan_nil ?_; simp only [tailL, List.filterMap_cons, List.filterMap_nil, nL]; change wpList _ _ _ (_ :: _ :: _ :: []) _ _
      go_wp2_with fail
      refine (lines_equal _ v v' S.l T.l (HR1.out.ext hE0) (HR2.out.ext hE0) HL1.out HL2.out).mono ?_
      rintro r w3 ⟨rfl, hE1⟩
      have hE3 : Ext w2 w3 := hE0.ext hE1
      go_wp2_with fail
      go_ret
      exact ⟨by rw [HQ.out]; rfl, by assumption⟩
end Go.Proofs.YthhdgjofagdjeaaGreatDoor
end
section
/- Which judges are the same, as judge.Same tells it. Condition: they lie as 'JudgeX' says, and are such as came by things seen. -/
set_option linter.unusedVariables false
set_option linter.unusedSimpArgs false
set_option maxHeartbeats 4000000
set_option maxRecDepth 100000
namespace Go.Proofs.YthhdgjofagdjeaaGreatDoor
open Go.RowKit
def JA.cnt (J : JA) : List Value := J.told.map iV ++ (J.next.map iV ++ [.int .i64 J.broken])
theorem JA.cnt_len (J : JA) (h9 : J.told.length = 9) (h16 : J.next.length = 16) : J.cnt.length = 26 := by simp [JA.cnt, h9, h16]
theorem JA.cnt_of (J : JA) (tb mb : Nat) (h9 : J.told.length = 9) (h16 : J.next.length = 16) : ((J.cells tb mb).drop 0).take 26 = J.cnt := by
  have e : J.cells tb mb = J.cnt ++ [.int .i64 J.n, .int .i64 J.m, .pointer (some ⟨tb, 0, none⟩), .map (some mb)] := by simp [JA.cells, JA.cnt]
  rw [List.drop_zero, e, List.take_append_of_le_length (by rw [J.cnt_len h9 h16]; omega), List.take_of_length_le (by rw [J.cnt_len h9 h16]; omega)]
theorem info26 : (Tryz.prog.info? 41).map (·.size) = some 26 := by kernel_rfl
theorem eqIn_9 (l m : List Int) (hl : l.length = 9) (hm : m.length = 9) (d : Nat) (W : World) : (Op.equalIn (d + 2) 33 (.agg (l.map iV).toArray) (.agg (m.map iV).toArray)).run Tryz.prog W = .ok (decide (l = m)) W :=
  equal_ints (d := d) l m Tryz.underlying33 Tryz.underlying2 (by kernel_rfl) hl hm W
theorem eqIn_16 (l m : List Int) (hl : l.length = 16) (hm : m.length = 16) (d : Nat) (W : World) : (Op.equalIn (d + 2) 34 (.agg (l.map iV).toArray) (.agg (m.map iV).toArray)).run Tryz.prog W = .ok (decide (l = m)) W :=
  equal_ints (d := d) l m Tryz.underlying34 Tryz.underlying2 (by kernel_rfl) hl hm W
theorem eqIn_cnt (J K : JA) (h9 : J.told.length = 9) (h16 : J.next.length = 16) (k9 : K.told.length = 9) (k16 : K.next.length = 16) (W : World) :
    (Op.equalIn 10000 41 (.agg J.cnt.toArray) (.agg K.cnt.toArray)).run Tryz.prog W = .ok (decide (J.told = K.told) && (decide (J.next = K.next) && decide (J.broken = K.broken))) W := by
  have p1 : ∀ (X : JA), X.told.length = 9 → (part 33 X.cnt.toArray 0).run Tryz.prog W = .ok (.agg (X.told.map iV).toArray) W := fun X hx => by
    rw [part_agg (n := 9) Tryz.underlying33 rfl (by kernel_rfl) W]
    congr 3
    unfold JA.cnt
    rw [List.drop_zero, List.take_append_of_le_length (by rw [List.length_map]; omega), List.take_of_length_le (by rw [List.length_map]; omega)]
  have p2 : ∀ (X : JA), X.told.length = 9 → X.next.length = 16 → (part 34 X.cnt.toArray 9).run Tryz.prog W = .ok (.agg (X.next.map iV).toArray) W := fun X hx hy => by
    rw [part_agg (n := 16) Tryz.underlying34 rfl (by kernel_rfl) W]
    congr 3
    unfold JA.cnt
    have e : (X.told.map iV ++ (X.next.map iV ++ [Value.int .i64 X.broken])).drop 9 = X.next.map iV ++ [Value.int .i64 X.broken] := by
      rw [List.drop_append_of_le_length (by rw [List.length_map]; omega), List.drop_eq_nil_of_le (by rw [List.length_map]; omega), List.nil_append]
    rw [e, List.take_append_of_le_length (by rw [List.length_map]; omega), List.take_of_length_le (by rw [List.length_map]; omega)]
  have p3 : ∀ (X : JA), X.told.length = 9 → X.next.length = 16 → (part 3 X.cnt.toArray 25).run Tryz.prog W = .ok (.int .i64 X.broken) W := fun X hx hy => run_part_plain W (by kernel_rfl) (by
    rw [List.getElem?_toArray]
    unfold JA.cnt
    rw [List.getElem?_append_right (by rw [List.length_map]; omega), List.getElem?_append_right (by rw [List.length_map, List.length_map]; omega), List.length_map, List.length_map, hx, hy]
    rfl)
  have q1 := eqIn_9 J.told K.told h9 k9 9997 W
  have q2 := eqIn_16 J.next K.next h16 k16 9997 W
  have q3 := run_equalIn_int W 9998 3 .i64 .i64 J.broken K.broken Tryz.underlying3
  rw [show (10000 : Nat) = 9999 + 1 from rfl, run_equalIn_struct W 9999 41 _ _ (by kernel_rfl) (by kernel_rfl)]
  simp only [Program.fieldsOf, Tryz.underlying41, Op.eqFields]
  simp [p1 J h9, p1 K k9, p2 J h9 h16, p2 K k9 k16, p3 J h9 h16, p3 K k9 k16, q1, q2, q3, Result.andThen]
  by_cases e1 : J.told = K.told
  · by_cases e2 : J.next = K.next
    · simp [e1, e2]
      cases hb : (J.broken == K.broken) <;> simp_all
    · simp [e1, e2]
  · simp [e1]
theorem infoCnt : Tryz.prog.underlying 41 = some (match Tryz.prog.underlying 41 with | some d => d | none => .bool) := by kernel_rfl
def sameC (J K : JA) : Bool := decide (J.told = K.told) && (decide (J.next = K.next) && decide (J.broken = K.broken))
def sameJ (J K : JA) : Bool := sameC J K && (decide (J.n = K.n) && (decide (J.m = K.m) && (sameT J.T K.T && sameD J.put K.put)))
/-- a judge such as came by things seen -/
structure Came (J : JA) : Prop where
  ok : J.T.Ok
  len : J.T.l.length ≤ 4096
  put : J.put.length ≤ 1000000
theorem judge_same {F G : Nat → Prop} (w : World) (b c : Nat) (J Z : JA) (hJ : JudgeX w F b J) (hK : JudgeX w G c Z) (oJ : Came J) (oK : Came Z) :
    Calls Tryz.prog 16 #[.pointer (some ⟨b, 0, none⟩), .pointer (some ⟨c, 0, none⟩)] w fun e w' => e = .returned (.bool (sameJ J Z)) ∧ Ext w w' := by
  have HJX := Lib.hid hJ
  have HKX := Lib.hid hK
  have HCJ := Lib.hid oJ
  have HCK := Lib.hid oK
  obtain ⟨Ft, tb, mb, hJ⟩ := hJ
  obtain ⟨Gt, tb', mb', hK⟩ := hK
  obtain ⟨-, c26, c27, c28, c29, lt⟩ := hJ.see
  obtain ⟨-, f26, f27, f28, f29, lt'⟩ := hK.see
  have HT1 := Lib.hid hJ.talk
  have HT2 := Lib.hid hK.talk
  have HM1 := Lib.hid hJ.map
  have HM2 := Lib.hid hK.map
  have hq := fun W => eqIn_cnt J Z hJ.l9 hJ.l16 hK.l9 hK.l16 W
  have hq' := fun W => eql_of (eqIn_cnt J Z hJ.l9 hJ.l16 hK.l9 hK.l16 W)
  have h1 : ∀ W, Ext w W → (Instr.loadAt 41 (.pointer (some ⟨b, 0, none⟩))).run Tryz.prog W = .ok (.agg J.cnt.toArray) W := fun W hW => load_mid (hJ.box.ext hW) (J.cnt_of tb mb hJ.l9 hJ.l16) (J.cnt_len hJ.l9 hJ.l16) Tryz.underlying41 rfl info26
  have h2 : ∀ W, Ext w W → (Instr.loadAt 41 (.pointer (some ⟨c, 0, none⟩))).run Tryz.prog W = .ok (.agg Z.cnt.toArray) W := fun W hW => load_mid (hK.box.ext hW) (Z.cnt_of tb' mb' hK.l9 hK.l16) (Z.cnt_len hK.l9 hK.l16) Tryz.underlying41 rfl info26
  obtain ⟨cs1, hcs1⟩ : ∃ cs1, J.cnt = cs1 := ⟨_, rfl⟩
  obtain ⟨cs2, hcs2⟩ : ∃ cs2, Z.cnt = cs2 := ⟨_, rfl⟩
  rw [hcs1] at hq hq' h1
  rw [hcs2] at hq hq' h2
  have H1 := Lib.hid h1
  have H2 := Lib.hid h2
  obtain ⟨n1, hn1⟩ : ∃ n1, J.n = n1 := ⟨_, rfl⟩
  obtain ⟨n2, hn2⟩ : ∃ n2, Z.n = n2 := ⟨_, rfl⟩
  obtain ⟨m1, hm1⟩ : ∃ m1, J.m = m1 := ⟨_, rfl⟩
  obtain ⟨m2, hm2⟩ : ∃ m2, Z.m = m2 := ⟨_, rfl⟩
  obtain ⟨d1, hd1⟩ : ∃ d1, sameC J Z = d1 := ⟨_, rfl⟩
  have HDEF : Hid (sameJ J Z = (d1 && (decide (n1 = n2) && (decide (m1 = m2) && (sameT J.T Z.T && sameD J.put Z.put))))) := Lib.hid (by unfold sameJ; rw [hd1, hn1, hn2, hm1, hm2])
  have hd1' : (decide (J.told = Z.told) && (decide (J.next = Z.next) && decide (J.broken = Z.broken))) = d1 := hd1
  rw [hn1] at c26
  rw [hn2] at f26
  rw [hm1] at c27
  rw [hm2] at f27
  simp only [hd1'] at hq hq'
  clear hJ hK oJ oK h1 h2 hcs1 hcs2 hn1 hn2 hm1 hm2 hd1 hd1'
  cases d1 with
  | false =>
    have HQ : Hid (sameJ J Z = false) := Lib.hid (by rw [HDEF.out]; rfl)
    clear HDEF
    go_enter Tryz.func16, Tryz.ntmps16
    go_wp2_with fail
    refine (judge_none w b J HJX.out).mono ?_
    rintro e w1 ⟨rfl, rfl⟩
    go_wp2_with fail
    refine (judge_none w1 c Z HKX.out).mono ?_
    rintro e w2 ⟨rfl, rfl⟩
    go_wp2_with fail
    have hE0 : Keeps NoB w2 w2.drew := (Keeps.refl _ _).drew
    refine wp_region_plan [(0, 0), (0, 1), (0, 2), (3, 3), (0, 4), (0, 5), (0, 6), (3, 7), (0, 8), (0, 9), (0, 10), (0, 11), (0, 12), (3, 13), (0, 14), (0, 15), (0, 16), (3, 17), (0, 18), (0, 19), (0, 20), (0, 21), (0, 22), (0, 23), (3, 24), (0, 25), (0, 26), (0, 27), (3, 28), (0, 29), (0, 30), (0, 31), (0, 32), (0, 33), (0, 34), (3, 35), (0, 36), (0, 37), (0, 38), (3, 39), (2, 40), (0, 41), (0, 42), (0, 43), (0, 44), (0, 45), (1, 46), (0, 47), (0, 48), (0, 49), (1, 50)] [46, 50] [40, 51, 52, 53] [51, 52, 53] (ClsE w2) (by kernel_rfl) (by kernel_rfl) (plan3 [0, 1, 3, 7, 0, 16, 48, 112, 255, 511, 1023, 2047, 4095, 8191, 1023, 17407, 50175, 115711, 262143, 524287, 1048575, 2097151, 4194303, 8388607, 16777215, 2097151, 35651583, 102760447, 236978175, 536870911, 1073741823, 2147483647, 4294967295, 8589934591, 17179869183, 34359738367, 4294967295, 73014444031, 210453397503, 485331304447, 1099511627775, 2199023255551, 4398046511103, 8796093022207, 17592186044415, 35184372088831, 70368744177663, 8796093022207, 149533581377535, 431008558088191, 993958511509503, 2251799813685247, 4503599627370495, 9007199254740991] (by kernel_rfl) rfl (by kernel_rfl)) rfl rfl (ClsE.of hE0) (fun _ _ _ d _ h => by cases d <;> exact h) ?_; simp only [planL, nL]
    refine pM _ rfl rfl ?_; simp only [nP, nE]
    iterate 2 (refine pR (v := ?_) rfl (fun W => ?_) ?_; rotate_left; (go_simp <;> with_reducible rfl); simp only [nP])
    refine pX (v := .agg cs1.toArray) rfl (elM 41 _ rfl rfl (H1.out _ (Ext.drew0 w2))) ?_; simp only [nP]
    refine pM _ rfl rfl ?_; simp only [nP, nE]
    iterate 2 (refine pR (v := ?_) rfl (fun W => ?_) ?_; rotate_left; (go_simp <;> with_reducible rfl); simp only [nP])
    refine pX (v := .agg cs2.toArray) rfl (elM 41 _ rfl rfl (H2.out _ (Ext.drew0 w2))) ?_; simp only [nP]
    refine pR (v := ?_) rfl (fun W => ?_) ?_; rotate_left; (go_simp <;> with_reducible rfl); simp only [nP]
    refine pM _ rfl rfl ?_; simp only [nP, nE]
    (first | (refine plan_skip rfl ?_; simp only [nP]) | (refine pM _ rfl rfl ?_; simp only [nP, nE]))
    iterate 2 ((first | (refine plan_skip rfl ?_; simp only [nP]) | (refine pR (v := ?_) rfl (fun W => ?_) ?_; rotate_left; (go_simp <;> with_reducible rfl); simp only [nP])))
    (first | (refine plan_skip rfl ?_; simp only [nP]) | (refine pX (v := ?_) rfl ?_ ?_; rotate_left; (go_simp <;> with_reducible rfl); simp only [nP]))
    (first | (refine plan_skip rfl ?_; simp only [nP]) | (refine pM _ rfl rfl ?_; simp only [nP, nE]))
    iterate 2 ((first | (refine plan_skip rfl ?_; simp only [nP]) | (refine pR (v := ?_) rfl (fun W => ?_) ?_; rotate_left; (go_simp <;> with_reducible rfl); simp only [nP])))
    (first | (refine plan_skip rfl ?_; simp only [nP]) | (refine pX (v := ?_) rfl ?_ ?_; rotate_left; (go_simp <;> with_reducible rfl); simp only [nP]))
    (first | (refine plan_skip rfl ?_; simp only [nP]) | (refine pR (v := ?_) rfl (fun W => ?_) ?_; rotate_left; (go_simp <;> with_reducible rfl); simp only [nP]))
    refine pR (v := ?_) rfl (fun W => ?_) ?_; rotate_left; (go_simp <;> with_reducible rfl); simp only [nP]
    refine pM _ rfl rfl ?_; simp only [nP, nE]
    (first | (refine plan_skip rfl ?_; simp only [nP]) | (refine pM _ rfl rfl ?_; simp only [nP, nE]))
    iterate 2 ((first | (refine plan_skip rfl ?_; simp only [nP]) | (refine pR (v := ?_) rfl (fun W => ?_) ?_; rotate_left; (go_simp <;> with_reducible rfl); simp only [nP])))
    (first | (refine plan_skip rfl ?_; simp only [nP]) | (refine pX (v := ?_) rfl ?_ ?_; rotate_left; (go_simp <;> with_reducible rfl); simp only [nP]))
    (first | (refine plan_skip rfl ?_; simp only [nP]) | (refine pM _ rfl rfl ?_; simp only [nP, nE]))
    iterate 2 ((first | (refine plan_skip rfl ?_; simp only [nP]) | (refine pR (v := ?_) rfl (fun W => ?_) ?_; rotate_left; (go_simp <;> with_reducible rfl); simp only [nP])))
    (first | (refine plan_skip rfl ?_; simp only [nP]) | (refine pX (v := ?_) rfl ?_ ?_; rotate_left; (go_simp <;> with_reducible rfl); simp only [nP]))
    (first | (refine plan_skip rfl ?_; simp only [nP]) | (refine pR (v := ?_) rfl (fun W => ?_) ?_; rotate_left; (go_simp <;> with_reducible rfl); simp only [nP]))
    refine pR (v := ?_) rfl (fun W => ?_) ?_; rotate_left; (go_simp <;> with_reducible rfl); simp only [nP]
    refine pM _ rfl rfl ?_; simp only [nP, nE]
    (first | (refine plan_skip rfl ?_; simp only [nP]) | (refine pM _ rfl rfl ?_; simp only [nP, nE]))
    iterate 2 ((first | (refine plan_skip rfl ?_; simp only [nP]) | (refine pR (v := ?_) rfl (fun W => ?_) ?_; rotate_left; (go_simp <;> with_reducible rfl); simp only [nP])))
    (first | (refine plan_skip rfl ?_; simp only [nP]) | (refine pX (v := ?_) rfl ?_ ?_; rotate_left; (go_simp <;> with_reducible rfl); simp only [nP]))
    (first | (refine plan_skip rfl ?_; simp only [nP]) | (refine pM _ rfl rfl ?_; simp only [nP, nE]))
    iterate 2 ((first | (refine plan_skip rfl ?_; simp only [nP]) | (refine pR (v := ?_) rfl (fun W => ?_) ?_; rotate_left; (go_simp <;> with_reducible rfl); simp only [nP])))
    (first | (refine plan_skip rfl ?_; simp only [nP]) | (refine pX (v := ?_) rfl ?_ ?_; rotate_left; (go_simp <;> with_reducible rfl); simp only [nP]))
    refine plan_skip rfl ?_; simp only [nP]
    refine pR (v := ?_) rfl (fun W => ?_) ?_; rotate_left; (go_simp <;> with_reducible rfl); simp only [nP]
    refine pM _ rfl rfl ?_; simp only [nP, nE]
    (first | (refine plan_skip rfl ?_; simp only [nP]) | (refine pM _ rfl rfl ?_; simp only [nP, nE]))
    iterate 2 ((first | (refine plan_skip rfl ?_; simp only [nP]) | (refine pR (v := ?_) rfl (fun W => ?_) ?_; rotate_left; (go_simp <;> with_reducible rfl); simp only [nP])))
    (first | (refine plan_skip rfl ?_; simp only [nP]) | (refine pL (v := ?_) rfl (fun W => ?_) ?_; rotate_left; (go_simp <;> with_reducible rfl); simp only [nP]))
    (first | (refine plan_skip rfl ?_; simp only [nP]) | (refine pM _ rfl rfl ?_; simp only [nP, nE]))
    iterate 2 ((first | (refine plan_skip rfl ?_; simp only [nP]) | (refine pR (v := ?_) rfl (fun W => ?_) ?_; rotate_left; (go_simp <;> with_reducible rfl); simp only [nP])))
    (first | (refine plan_skip rfl ?_; simp only [nP]) | (refine pL (v := ?_) rfl (fun W => ?_) ?_; rotate_left; (go_simp <;> with_reducible rfl); simp only [nP]))
    refine plan_nil ?_; simp only [tailL, List.filterMap_cons, List.filterMap_nil, nL]; change wpList _ _ _ (_ :: _ :: _ :: []) _ _
    go_wp2_with fail
    go_ret
    exact ⟨by rw [HQ.out]; rfl, by assumption⟩
  | true =>
    by_cases e1 : n1 = n2
    case neg =>
      have HQ : Hid (sameJ J Z = false) := Lib.hid (by rw [HDEF.out, decide_eq_false e1]; rfl)
      have e1' : (n1 == n2) = false := by simpa using e1
      clear HDEF e1
      go_enter Tryz.func16, Tryz.ntmps16
      go_wp2_with fail
      refine (judge_none w b J HJX.out).mono ?_
      rintro e w1 ⟨rfl, rfl⟩
      go_wp2_with fail
      refine (judge_none w1 c Z HKX.out).mono ?_
      rintro e w2 ⟨rfl, rfl⟩
      go_wp2_with fail
      have hE0 : Keeps NoB w2 w2.drew := (Keeps.refl _ _).drew
      refine wp_region_plan [(0, 0), (0, 1), (0, 2), (3, 3), (0, 4), (0, 5), (0, 6), (3, 7), (0, 8), (0, 9), (0, 10), (0, 11), (0, 12), (3, 13), (0, 14), (0, 15), (0, 16), (3, 17), (0, 18), (0, 19), (0, 20), (0, 21), (0, 22), (0, 23), (3, 24), (0, 25), (0, 26), (0, 27), (3, 28), (0, 29), (0, 30), (0, 31), (0, 32), (0, 33), (0, 34), (3, 35), (0, 36), (0, 37), (0, 38), (3, 39), (2, 40), (0, 41), (0, 42), (0, 43), (0, 44), (0, 45), (1, 46), (0, 47), (0, 48), (0, 49), (1, 50)] [46, 50] [40, 51, 52, 53] [51, 52, 53] (ClsE w2) (by kernel_rfl) (by kernel_rfl) (plan3 [0, 1, 3, 7, 0, 16, 48, 112, 255, 511, 1023, 2047, 4095, 8191, 1023, 17407, 50175, 115711, 262143, 524287, 1048575, 2097151, 4194303, 8388607, 16777215, 2097151, 35651583, 102760447, 236978175, 536870911, 1073741823, 2147483647, 4294967295, 8589934591, 17179869183, 34359738367, 4294967295, 73014444031, 210453397503, 485331304447, 1099511627775, 2199023255551, 4398046511103, 8796093022207, 17592186044415, 35184372088831, 70368744177663, 8796093022207, 149533581377535, 431008558088191, 993958511509503, 2251799813685247, 4503599627370495, 9007199254740991] (by kernel_rfl) rfl (by kernel_rfl)) rfl rfl (ClsE.of hE0) (fun _ _ _ d _ h => by cases d <;> exact h) ?_; simp only [planL, nL]
      refine pM _ rfl rfl ?_; simp only [nP, nE]
      iterate 2 (refine pR (v := ?_) rfl (fun W => ?_) ?_; rotate_left; (go_simp <;> with_reducible rfl); simp only [nP])
      refine pX (v := .agg cs1.toArray) rfl (elM 41 _ rfl rfl (H1.out _ (Ext.drew0 w2))) ?_; simp only [nP]
      refine pM _ rfl rfl ?_; simp only [nP, nE]
      iterate 2 (refine pR (v := ?_) rfl (fun W => ?_) ?_; rotate_left; (go_simp <;> with_reducible rfl); simp only [nP])
      refine pX (v := .agg cs2.toArray) rfl (elM 41 _ rfl rfl (H2.out _ (Ext.drew0 w2))) ?_; simp only [nP]
      refine pR (v := ?_) rfl (fun W => ?_) ?_; rotate_left; (go_simp <;> with_reducible rfl); simp only [nP]
      refine pM _ rfl rfl ?_; simp only [nP, nE]
      (first | (refine plan_skip rfl ?_; simp only [nP]) | (refine pM _ rfl rfl ?_; simp only [nP, nE]))
      iterate 2 ((first | (refine plan_skip rfl ?_; simp only [nP]) | (refine pR (v := ?_) rfl (fun W => ?_) ?_; rotate_left; (go_simp <;> with_reducible rfl); simp only [nP])))
      (first | (refine plan_skip rfl ?_; simp only [nP]) | (refine pX (v := ?_) rfl ?_ ?_; rotate_left; (go_simp <;> with_reducible rfl); simp only [nP]))
      (first | (refine plan_skip rfl ?_; simp only [nP]) | (refine pM _ rfl rfl ?_; simp only [nP, nE]))
      iterate 2 ((first | (refine plan_skip rfl ?_; simp only [nP]) | (refine pR (v := ?_) rfl (fun W => ?_) ?_; rotate_left; (go_simp <;> with_reducible rfl); simp only [nP])))
      (first | (refine plan_skip rfl ?_; simp only [nP]) | (refine pX (v := ?_) rfl ?_ ?_; rotate_left; (go_simp <;> with_reducible rfl); simp only [nP]))
      (first | (refine plan_skip rfl ?_; simp only [nP]) | (refine pR (v := ?_) rfl (fun W => ?_) ?_; rotate_left; (go_simp <;> with_reducible rfl); simp only [nP]))
      refine pR (v := ?_) rfl (fun W => ?_) ?_; rotate_left; (go_simp <;> with_reducible rfl); simp only [nP]
      refine pM _ rfl rfl ?_; simp only [nP, nE]
      (first | (refine plan_skip rfl ?_; simp only [nP]) | (refine pM _ rfl rfl ?_; simp only [nP, nE]))
      iterate 2 ((first | (refine plan_skip rfl ?_; simp only [nP]) | (refine pR (v := ?_) rfl (fun W => ?_) ?_; rotate_left; (go_simp <;> with_reducible rfl); simp only [nP])))
      (first | (refine plan_skip rfl ?_; simp only [nP]) | (refine pX (v := ?_) rfl ?_ ?_; rotate_left; (go_simp <;> with_reducible rfl); simp only [nP]))
      (first | (refine plan_skip rfl ?_; simp only [nP]) | (refine pM _ rfl rfl ?_; simp only [nP, nE]))
      iterate 2 ((first | (refine plan_skip rfl ?_; simp only [nP]) | (refine pR (v := ?_) rfl (fun W => ?_) ?_; rotate_left; (go_simp <;> with_reducible rfl); simp only [nP])))
      (first | (refine plan_skip rfl ?_; simp only [nP]) | (refine pX (v := ?_) rfl ?_ ?_; rotate_left; (go_simp <;> with_reducible rfl); simp only [nP]))
      (first | (refine plan_skip rfl ?_; simp only [nP]) | (refine pR (v := ?_) rfl (fun W => ?_) ?_; rotate_left; (go_simp <;> with_reducible rfl); simp only [nP]))
      refine pR (v := ?_) rfl (fun W => ?_) ?_; rotate_left; (go_simp <;> with_reducible rfl); simp only [nP]
      refine pM _ rfl rfl ?_; simp only [nP, nE]
      (first | (refine plan_skip rfl ?_; simp only [nP]) | (refine pM _ rfl rfl ?_; simp only [nP, nE]))
      iterate 2 ((first | (refine plan_skip rfl ?_; simp only [nP]) | (refine pR (v := ?_) rfl (fun W => ?_) ?_; rotate_left; (go_simp <;> with_reducible rfl); simp only [nP])))
      (first | (refine plan_skip rfl ?_; simp only [nP]) | (refine pX (v := ?_) rfl ?_ ?_; rotate_left; (go_simp <;> with_reducible rfl); simp only [nP]))
      (first | (refine plan_skip rfl ?_; simp only [nP]) | (refine pM _ rfl rfl ?_; simp only [nP, nE]))
      iterate 2 ((first | (refine plan_skip rfl ?_; simp only [nP]) | (refine pR (v := ?_) rfl (fun W => ?_) ?_; rotate_left; (go_simp <;> with_reducible rfl); simp only [nP])))
      (first | (refine plan_skip rfl ?_; simp only [nP]) | (refine pX (v := ?_) rfl ?_ ?_; rotate_left; (go_simp <;> with_reducible rfl); simp only [nP]))
      refine plan_skip rfl ?_; simp only [nP]
      refine pR (v := ?_) rfl (fun W => ?_) ?_; rotate_left; (go_simp <;> with_reducible rfl); simp only [nP]
      refine pM _ rfl rfl ?_; simp only [nP, nE]
      (first | (refine plan_skip rfl ?_; simp only [nP]) | (refine pM _ rfl rfl ?_; simp only [nP, nE]))
      iterate 2 ((first | (refine plan_skip rfl ?_; simp only [nP]) | (refine pR (v := ?_) rfl (fun W => ?_) ?_; rotate_left; (go_simp <;> with_reducible rfl); simp only [nP])))
      (first | (refine plan_skip rfl ?_; simp only [nP]) | (refine pL (v := ?_) rfl (fun W => ?_) ?_; rotate_left; (go_simp <;> with_reducible rfl); simp only [nP]))
      (first | (refine plan_skip rfl ?_; simp only [nP]) | (refine pM _ rfl rfl ?_; simp only [nP, nE]))
      iterate 2 ((first | (refine plan_skip rfl ?_; simp only [nP]) | (refine pR (v := ?_) rfl (fun W => ?_) ?_; rotate_left; (go_simp <;> with_reducible rfl); simp only [nP])))
      (first | (refine plan_skip rfl ?_; simp only [nP]) | (refine pL (v := ?_) rfl (fun W => ?_) ?_; rotate_left; (go_simp <;> with_reducible rfl); simp only [nP]))
      refine plan_nil ?_; simp only [tailL, List.filterMap_cons, List.filterMap_nil, nL]; change wpList _ _ _ (_ :: _ :: _ :: []) _ _
      go_wp2_with fail
      go_ret
      exact ⟨by rw [HQ.out]; rfl, by assumption⟩
    case pos =>
      subst e1
      by_cases e2 : m1 = m2
      case neg =>
        have HQ : Hid (sameJ J Z = false) := Lib.hid (by rw [HDEF.out, decide_eq_false e2]; simp)
        have e2' : (m1 == m2) = false := by simpa using e2
        clear HDEF e2
        go_enter Tryz.func16, Tryz.ntmps16
        go_wp2_with fail
        refine (judge_none w b J HJX.out).mono ?_
        rintro e w1 ⟨rfl, rfl⟩
        go_wp2_with fail
        refine (judge_none w1 c Z HKX.out).mono ?_
        rintro e w2 ⟨rfl, rfl⟩
        go_wp2_with fail
        have hE0 : Keeps NoB w2 w2.drew := (Keeps.refl _ _).drew
        refine wp_region_plan [(0, 0), (0, 1), (0, 2), (3, 3), (0, 4), (0, 5), (0, 6), (3, 7), (0, 8), (0, 9), (0, 10), (0, 11), (0, 12), (3, 13), (0, 14), (0, 15), (0, 16), (3, 17), (0, 18), (0, 19), (0, 20), (0, 21), (0, 22), (0, 23), (3, 24), (0, 25), (0, 26), (0, 27), (3, 28), (0, 29), (0, 30), (0, 31), (0, 32), (0, 33), (0, 34), (3, 35), (0, 36), (0, 37), (0, 38), (3, 39), (2, 40), (0, 41), (0, 42), (0, 43), (0, 44), (0, 45), (1, 46), (0, 47), (0, 48), (0, 49), (1, 50)] [46, 50] [40, 51, 52, 53] [51, 52, 53] (ClsE w2) (by kernel_rfl) (by kernel_rfl) (plan3 [0, 1, 3, 7, 0, 16, 48, 112, 255, 511, 1023, 2047, 4095, 8191, 1023, 17407, 50175, 115711, 262143, 524287, 1048575, 2097151, 4194303, 8388607, 16777215, 2097151, 35651583, 102760447, 236978175, 536870911, 1073741823, 2147483647, 4294967295, 8589934591, 17179869183, 34359738367, 4294967295, 73014444031, 210453397503, 485331304447, 1099511627775, 2199023255551, 4398046511103, 8796093022207, 17592186044415, 35184372088831, 70368744177663, 8796093022207, 149533581377535, 431008558088191, 993958511509503, 2251799813685247, 4503599627370495, 9007199254740991] (by kernel_rfl) rfl (by kernel_rfl)) rfl rfl (ClsE.of hE0) (fun _ _ _ d _ h => by cases d <;> exact h) ?_; simp only [planL, nL]
        refine pM _ rfl rfl ?_; simp only [nP, nE]
        iterate 2 (refine pR (v := ?_) rfl (fun W => ?_) ?_; rotate_left; (go_simp <;> with_reducible rfl); simp only [nP])
        refine pX (v := .agg cs1.toArray) rfl (elM 41 _ rfl rfl (H1.out _ (Ext.drew0 w2))) ?_; simp only [nP]
        refine pM _ rfl rfl ?_; simp only [nP, nE]
        iterate 2 (refine pR (v := ?_) rfl (fun W => ?_) ?_; rotate_left; (go_simp <;> with_reducible rfl); simp only [nP])
        refine pX (v := .agg cs2.toArray) rfl (elM 41 _ rfl rfl (H2.out _ (Ext.drew0 w2))) ?_; simp only [nP]
        refine pR (v := ?_) rfl (fun W => ?_) ?_; rotate_left; (go_simp <;> with_reducible rfl); simp only [nP]
        refine pM _ rfl rfl ?_; simp only [nP, nE]
        (first | (refine plan_skip rfl ?_; simp only [nP]) | (refine pM _ rfl rfl ?_; simp only [nP, nE]))
        iterate 2 ((first | (refine plan_skip rfl ?_; simp only [nP]) | (refine pR (v := ?_) rfl (fun W => ?_) ?_; rotate_left; (go_simp <;> with_reducible rfl); simp only [nP])))
        (first | (refine plan_skip rfl ?_; simp only [nP]) | (refine pX (v := ?_) rfl ?_ ?_; rotate_left; (go_simp <;> with_reducible rfl); simp only [nP]))
        (first | (refine plan_skip rfl ?_; simp only [nP]) | (refine pM _ rfl rfl ?_; simp only [nP, nE]))
        iterate 2 ((first | (refine plan_skip rfl ?_; simp only [nP]) | (refine pR (v := ?_) rfl (fun W => ?_) ?_; rotate_left; (go_simp <;> with_reducible rfl); simp only [nP])))
        (first | (refine plan_skip rfl ?_; simp only [nP]) | (refine pX (v := ?_) rfl ?_ ?_; rotate_left; (go_simp <;> with_reducible rfl); simp only [nP]))
        (first | (refine plan_skip rfl ?_; simp only [nP]) | (refine pR (v := ?_) rfl (fun W => ?_) ?_; rotate_left; (go_simp <;> with_reducible rfl); simp only [nP]))
        refine pR (v := ?_) rfl (fun W => ?_) ?_; rotate_left; (go_simp <;> with_reducible rfl); simp only [nP]
        refine pM _ rfl rfl ?_; simp only [nP, nE]
        (first | (refine plan_skip rfl ?_; simp only [nP]) | (refine pM _ rfl rfl ?_; simp only [nP, nE]))
        iterate 2 ((first | (refine plan_skip rfl ?_; simp only [nP]) | (refine pR (v := ?_) rfl (fun W => ?_) ?_; rotate_left; (go_simp <;> with_reducible rfl); simp only [nP])))
        (first | (refine plan_skip rfl ?_; simp only [nP]) | (refine pX (v := ?_) rfl ?_ ?_; rotate_left; (go_simp <;> with_reducible rfl); simp only [nP]))
        (first | (refine plan_skip rfl ?_; simp only [nP]) | (refine pM _ rfl rfl ?_; simp only [nP, nE]))
        iterate 2 ((first | (refine plan_skip rfl ?_; simp only [nP]) | (refine pR (v := ?_) rfl (fun W => ?_) ?_; rotate_left; (go_simp <;> with_reducible rfl); simp only [nP])))
        (first | (refine plan_skip rfl ?_; simp only [nP]) | (refine pX (v := ?_) rfl ?_ ?_; rotate_left; (go_simp <;> with_reducible rfl); simp only [nP]))
        (first | (refine plan_skip rfl ?_; simp only [nP]) | (refine pR (v := ?_) rfl (fun W => ?_) ?_; rotate_left; (go_simp <;> with_reducible rfl); simp only [nP]))
        refine pR (v := ?_) rfl (fun W => ?_) ?_; rotate_left; (go_simp <;> with_reducible rfl); simp only [nP]
        refine pM _ rfl rfl ?_; simp only [nP, nE]
        (first | (refine plan_skip rfl ?_; simp only [nP]) | (refine pM _ rfl rfl ?_; simp only [nP, nE]))
        iterate 2 ((first | (refine plan_skip rfl ?_; simp only [nP]) | (refine pR (v := ?_) rfl (fun W => ?_) ?_; rotate_left; (go_simp <;> with_reducible rfl); simp only [nP])))
        (first | (refine plan_skip rfl ?_; simp only [nP]) | (refine pX (v := ?_) rfl ?_ ?_; rotate_left; (go_simp <;> with_reducible rfl); simp only [nP]))
        (first | (refine plan_skip rfl ?_; simp only [nP]) | (refine pM _ rfl rfl ?_; simp only [nP, nE]))
        iterate 2 ((first | (refine plan_skip rfl ?_; simp only [nP]) | (refine pR (v := ?_) rfl (fun W => ?_) ?_; rotate_left; (go_simp <;> with_reducible rfl); simp only [nP])))
        (first | (refine plan_skip rfl ?_; simp only [nP]) | (refine pX (v := ?_) rfl ?_ ?_; rotate_left; (go_simp <;> with_reducible rfl); simp only [nP]))
        refine plan_skip rfl ?_; simp only [nP]
        refine pR (v := ?_) rfl (fun W => ?_) ?_; rotate_left; (go_simp <;> with_reducible rfl); simp only [nP]
        refine pM _ rfl rfl ?_; simp only [nP, nE]
        (first | (refine plan_skip rfl ?_; simp only [nP]) | (refine pM _ rfl rfl ?_; simp only [nP, nE]))
        iterate 2 ((first | (refine plan_skip rfl ?_; simp only [nP]) | (refine pR (v := ?_) rfl (fun W => ?_) ?_; rotate_left; (go_simp <;> with_reducible rfl); simp only [nP])))
        (first | (refine plan_skip rfl ?_; simp only [nP]) | (refine pL (v := ?_) rfl (fun W => ?_) ?_; rotate_left; (go_simp <;> with_reducible rfl); simp only [nP]))
        (first | (refine plan_skip rfl ?_; simp only [nP]) | (refine pM _ rfl rfl ?_; simp only [nP, nE]))
        iterate 2 ((first | (refine plan_skip rfl ?_; simp only [nP]) | (refine pR (v := ?_) rfl (fun W => ?_) ?_; rotate_left; (go_simp <;> with_reducible rfl); simp only [nP])))
        (first | (refine plan_skip rfl ?_; simp only [nP]) | (refine pL (v := ?_) rfl (fun W => ?_) ?_; rotate_left; (go_simp <;> with_reducible rfl); simp only [nP]))
        refine plan_nil ?_; simp only [tailL, List.filterMap_cons, List.filterMap_nil, nL]; change wpList _ _ _ (_ :: _ :: _ :: []) _ _
        go_wp2_with fail
        go_ret
        exact ⟨by rw [HQ.out]; rfl, by assumption⟩
      case pos =>
        subst e2
        cases hst : sameT J.T Z.T with
        | false =>
          have HQ : Hid (sameJ J Z = false) := Lib.hid (by rw [HDEF.out, hst]; simp)
          have HST := Lib.hid hst
          clear HDEF hst
          go_enter Tryz.func16, Tryz.ntmps16
          go_wp2_with fail
          refine (judge_none w b J HJX.out).mono ?_
          rintro e w1 ⟨rfl, rfl⟩
          go_wp2_with fail
          refine (judge_none w1 c Z HKX.out).mono ?_
          rintro e w2 ⟨rfl, rfl⟩
          go_wp2_with fail
          have hE0 : Keeps NoB w2 w2.drew := (Keeps.refl _ _).drew
          refine wp_region_plan [(0, 0), (0, 1), (0, 2), (3, 3), (0, 4), (0, 5), (0, 6), (3, 7), (0, 8), (0, 9), (0, 10), (0, 11), (0, 12), (3, 13), (0, 14), (0, 15), (0, 16), (3, 17), (0, 18), (0, 19), (0, 20), (0, 21), (0, 22), (0, 23), (3, 24), (0, 25), (0, 26), (0, 27), (3, 28), (0, 29), (0, 30), (0, 31), (0, 32), (0, 33), (0, 34), (3, 35), (0, 36), (0, 37), (0, 38), (3, 39), (2, 40), (0, 41), (0, 42), (0, 43), (0, 44), (0, 45), (1, 46), (0, 47), (0, 48), (0, 49), (1, 50)] [46, 50] [40, 51, 52, 53] [51, 52, 53] (ClsE w2) (by kernel_rfl) (by kernel_rfl) (plan3 [0, 1, 3, 7, 0, 16, 48, 112, 255, 511, 1023, 2047, 4095, 8191, 1023, 17407, 50175, 115711, 262143, 524287, 1048575, 2097151, 4194303, 8388607, 16777215, 2097151, 35651583, 102760447, 236978175, 536870911, 1073741823, 2147483647, 4294967295, 8589934591, 17179869183, 34359738367, 4294967295, 73014444031, 210453397503, 485331304447, 1099511627775, 2199023255551, 4398046511103, 8796093022207, 17592186044415, 35184372088831, 70368744177663, 8796093022207, 149533581377535, 431008558088191, 993958511509503, 2251799813685247, 4503599627370495, 9007199254740991] (by kernel_rfl) rfl (by kernel_rfl)) rfl rfl (ClsE.of hE0) (fun _ _ _ d _ h => by cases d <;> exact h) ?_; simp only [planL, nL]
          refine pM _ rfl rfl ?_; simp only [nP, nE]
          iterate 2 (refine pR (v := ?_) rfl (fun W => ?_) ?_; rotate_left; (go_simp <;> with_reducible rfl); simp only [nP])
          refine pX (v := .agg cs1.toArray) rfl (elM 41 _ rfl rfl (H1.out _ (Ext.drew0 w2))) ?_; simp only [nP]
          refine pM _ rfl rfl ?_; simp only [nP, nE]
          iterate 2 (refine pR (v := ?_) rfl (fun W => ?_) ?_; rotate_left; (go_simp <;> with_reducible rfl); simp only [nP])
          refine pX (v := .agg cs2.toArray) rfl (elM 41 _ rfl rfl (H2.out _ (Ext.drew0 w2))) ?_; simp only [nP]
          refine pR (v := ?_) rfl (fun W => ?_) ?_; rotate_left; (go_simp <;> with_reducible rfl); simp only [nP]
          refine pM _ rfl rfl ?_; simp only [nP, nE]
          (first | (refine plan_skip rfl ?_; simp only [nP]) | (refine pM _ rfl rfl ?_; simp only [nP, nE]))
          iterate 2 ((first | (refine plan_skip rfl ?_; simp only [nP]) | (refine pR (v := ?_) rfl (fun W => ?_) ?_; rotate_left; (go_simp <;> with_reducible rfl); simp only [nP])))
          (first | (refine plan_skip rfl ?_; simp only [nP]) | (refine pX (v := ?_) rfl ?_ ?_; rotate_left; (go_simp <;> with_reducible rfl); simp only [nP]))
          (first | (refine plan_skip rfl ?_; simp only [nP]) | (refine pM _ rfl rfl ?_; simp only [nP, nE]))
          iterate 2 ((first | (refine plan_skip rfl ?_; simp only [nP]) | (refine pR (v := ?_) rfl (fun W => ?_) ?_; rotate_left; (go_simp <;> with_reducible rfl); simp only [nP])))
          (first | (refine plan_skip rfl ?_; simp only [nP]) | (refine pX (v := ?_) rfl ?_ ?_; rotate_left; (go_simp <;> with_reducible rfl); simp only [nP]))
          (first | (refine plan_skip rfl ?_; simp only [nP]) | (refine pR (v := ?_) rfl (fun W => ?_) ?_; rotate_left; (go_simp <;> with_reducible rfl); simp only [nP]))
          refine pR (v := ?_) rfl (fun W => ?_) ?_; rotate_left; (go_simp <;> with_reducible rfl); simp only [nP]
          refine pM _ rfl rfl ?_; simp only [nP, nE]
          (first | (refine plan_skip rfl ?_; simp only [nP]) | (refine pM _ rfl rfl ?_; simp only [nP, nE]))
          iterate 2 ((first | (refine plan_skip rfl ?_; simp only [nP]) | (refine pR (v := ?_) rfl (fun W => ?_) ?_; rotate_left; (go_simp <;> with_reducible rfl); simp only [nP])))
          (first | (refine plan_skip rfl ?_; simp only [nP]) | (refine pX (v := ?_) rfl ?_ ?_; rotate_left; (go_simp <;> with_reducible rfl); simp only [nP]))
          (first | (refine plan_skip rfl ?_; simp only [nP]) | (refine pM _ rfl rfl ?_; simp only [nP, nE]))
          iterate 2 ((first | (refine plan_skip rfl ?_; simp only [nP]) | (refine pR (v := ?_) rfl (fun W => ?_) ?_; rotate_left; (go_simp <;> with_reducible rfl); simp only [nP])))
          (first | (refine plan_skip rfl ?_; simp only [nP]) | (refine pX (v := ?_) rfl ?_ ?_; rotate_left; (go_simp <;> with_reducible rfl); simp only [nP]))
          (first | (refine plan_skip rfl ?_; simp only [nP]) | (refine pR (v := ?_) rfl (fun W => ?_) ?_; rotate_left; (go_simp <;> with_reducible rfl); simp only [nP]))
          refine pR (v := ?_) rfl (fun W => ?_) ?_; rotate_left; (go_simp <;> with_reducible rfl); simp only [nP]
          refine pM _ rfl rfl ?_; simp only [nP, nE]
          (first | (refine plan_skip rfl ?_; simp only [nP]) | (refine pM _ rfl rfl ?_; simp only [nP, nE]))
          iterate 2 ((first | (refine plan_skip rfl ?_; simp only [nP]) | (refine pR (v := ?_) rfl (fun W => ?_) ?_; rotate_left; (go_simp <;> with_reducible rfl); simp only [nP])))
          (first | (refine plan_skip rfl ?_; simp only [nP]) | (refine pX (v := ?_) rfl ?_ ?_; rotate_left; (go_simp <;> with_reducible rfl); simp only [nP]))
          (first | (refine plan_skip rfl ?_; simp only [nP]) | (refine pM _ rfl rfl ?_; simp only [nP, nE]))
          iterate 2 ((first | (refine plan_skip rfl ?_; simp only [nP]) | (refine pR (v := ?_) rfl (fun W => ?_) ?_; rotate_left; (go_simp <;> with_reducible rfl); simp only [nP])))
          (first | (refine plan_skip rfl ?_; simp only [nP]) | (refine pX (v := ?_) rfl ?_ ?_; rotate_left; (go_simp <;> with_reducible rfl); simp only [nP]))
          (first | (refine plan_skip rfl ?_; simp only [nP]) | (refine plan_does rfl (fun K hK => ?_)))
          go_wp2_with fail
          skip
          refine (chat_same _ tb tb' J.T Z.T (HT1.out.ext hE0) (HT2.out.ext hE0) HCJ.out.ok HCK.out.ok HCJ.out.len HCK.out.len).mono ?_
          rintro r w3 ⟨rfl, hE1⟩
          have hE3 : Ext w2 w3 := hE0.ext hE1
          rw [HST.out]
          refine hK _ _ ⟨ClsE.of (by assumption), ?_⟩; clear hK K; try simp only [nP]
          refine pR (v := ?_) rfl (fun W => ?_) ?_; rotate_left; (go_simp <;> with_reducible rfl); simp only [nP]
          refine pM _ rfl rfl ?_; simp only [nP, nE]
          (first | (refine plan_skip rfl ?_; simp only [nP]) | (refine pM _ rfl rfl ?_; simp only [nP, nE]))
          iterate 2 ((first | (refine plan_skip rfl ?_; simp only [nP]) | (refine pR (v := ?_) rfl (fun W => ?_) ?_; rotate_left; (go_simp <;> with_reducible rfl); simp only [nP])))
          (first | (refine plan_skip rfl ?_; simp only [nP]) | (refine pL (v := ?_) rfl (fun W => ?_) ?_; rotate_left; (go_simp <;> with_reducible rfl); simp only [nP]))
          (first | (refine plan_skip rfl ?_; simp only [nP]) | (refine pM _ rfl rfl ?_; simp only [nP, nE]))
          iterate 2 ((first | (refine plan_skip rfl ?_; simp only [nP]) | (refine pR (v := ?_) rfl (fun W => ?_) ?_; rotate_left; (go_simp <;> with_reducible rfl); simp only [nP])))
          (first | (refine plan_skip rfl ?_; simp only [nP]) | (refine pL (v := ?_) rfl (fun W => ?_) ?_; rotate_left; (go_simp <;> with_reducible rfl); simp only [nP]))
          refine plan_nil ?_; simp only [tailL, List.filterMap_cons, List.filterMap_nil, nL]; change wpList _ _ _ (_ :: _ :: _ :: []) _ _
          go_wp2_with fail
          go_ret
          exact ⟨by rw [HQ.out]; rfl, by assumption⟩
        | true =>
          have HQ : Hid (sameJ J Z = sameD J.put Z.put) := Lib.hid (by rw [HDEF.out, hst]; simp)
          have HST := Lib.hid hst
          clear HDEF hst
          go_enter Tryz.func16, Tryz.ntmps16
          go_wp2_with fail
          refine (judge_none w b J HJX.out).mono ?_
          rintro e w1 ⟨rfl, rfl⟩
          go_wp2_with fail
          refine (judge_none w1 c Z HKX.out).mono ?_
          rintro e w2 ⟨rfl, rfl⟩
          go_wp2_with fail
          have hE0 : Keeps NoB w2 w2.drew := (Keeps.refl _ _).drew
          refine wp_region_plan [(0, 0), (0, 1), (0, 2), (3, 3), (0, 4), (0, 5), (0, 6), (3, 7), (0, 8), (0, 9), (0, 10), (0, 11), (0, 12), (3, 13), (0, 14), (0, 15), (0, 16), (3, 17), (0, 18), (0, 19), (0, 20), (0, 21), (0, 22), (0, 23), (3, 24), (0, 25), (0, 26), (0, 27), (3, 28), (0, 29), (0, 30), (0, 31), (0, 32), (0, 33), (0, 34), (3, 35), (0, 36), (0, 37), (0, 38), (3, 39), (2, 40), (0, 41), (0, 42), (0, 43), (0, 44), (0, 45), (1, 46), (0, 47), (0, 48), (0, 49), (1, 50)] [46, 50] [40, 51, 52, 53] [51, 52, 53] (ClsE w2) (by kernel_rfl) (by kernel_rfl) (plan3 [0, 1, 3, 7, 0, 16, 48, 112, 255, 511, 1023, 2047, 4095, 8191, 1023, 17407, 50175, 115711, 262143, 524287, 1048575, 2097151, 4194303, 8388607, 16777215, 2097151, 35651583, 102760447, 236978175, 536870911, 1073741823, 2147483647, 4294967295, 8589934591, 17179869183, 34359738367, 4294967295, 73014444031, 210453397503, 485331304447, 1099511627775, 2199023255551, 4398046511103, 8796093022207, 17592186044415, 35184372088831, 70368744177663, 8796093022207, 149533581377535, 431008558088191, 993958511509503, 2251799813685247, 4503599627370495, 9007199254740991] (by kernel_rfl) rfl (by kernel_rfl)) rfl rfl (ClsE.of hE0) (fun _ _ _ d _ h => by cases d <;> exact h) ?_; simp only [planL, nL]
          refine pM _ rfl rfl ?_; simp only [nP, nE]
          iterate 2 (refine pR (v := ?_) rfl (fun W => ?_) ?_; rotate_left; (go_simp <;> with_reducible rfl); simp only [nP])
          refine pX (v := .agg cs1.toArray) rfl (elM 41 _ rfl rfl (H1.out _ (Ext.drew0 w2))) ?_; simp only [nP]
          refine pM _ rfl rfl ?_; simp only [nP, nE]
          iterate 2 (refine pR (v := ?_) rfl (fun W => ?_) ?_; rotate_left; (go_simp <;> with_reducible rfl); simp only [nP])
          refine pX (v := .agg cs2.toArray) rfl (elM 41 _ rfl rfl (H2.out _ (Ext.drew0 w2))) ?_; simp only [nP]
          refine pR (v := ?_) rfl (fun W => ?_) ?_; rotate_left; (go_simp <;> with_reducible rfl); simp only [nP]
          refine pM _ rfl rfl ?_; simp only [nP, nE]
          (first | (refine plan_skip rfl ?_; simp only [nP]) | (refine pM _ rfl rfl ?_; simp only [nP, nE]))
          iterate 2 ((first | (refine plan_skip rfl ?_; simp only [nP]) | (refine pR (v := ?_) rfl (fun W => ?_) ?_; rotate_left; (go_simp <;> with_reducible rfl); simp only [nP])))
          (first | (refine plan_skip rfl ?_; simp only [nP]) | (refine pX (v := ?_) rfl ?_ ?_; rotate_left; (go_simp <;> with_reducible rfl); simp only [nP]))
          (first | (refine plan_skip rfl ?_; simp only [nP]) | (refine pM _ rfl rfl ?_; simp only [nP, nE]))
          iterate 2 ((first | (refine plan_skip rfl ?_; simp only [nP]) | (refine pR (v := ?_) rfl (fun W => ?_) ?_; rotate_left; (go_simp <;> with_reducible rfl); simp only [nP])))
          (first | (refine plan_skip rfl ?_; simp only [nP]) | (refine pX (v := ?_) rfl ?_ ?_; rotate_left; (go_simp <;> with_reducible rfl); simp only [nP]))
          (first | (refine plan_skip rfl ?_; simp only [nP]) | (refine pR (v := ?_) rfl (fun W => ?_) ?_; rotate_left; (go_simp <;> with_reducible rfl); simp only [nP]))
          refine pR (v := ?_) rfl (fun W => ?_) ?_; rotate_left; (go_simp <;> with_reducible rfl); simp only [nP]
          refine pM _ rfl rfl ?_; simp only [nP, nE]
          (first | (refine plan_skip rfl ?_; simp only [nP]) | (refine pM _ rfl rfl ?_; simp only [nP, nE]))
          iterate 2 ((first | (refine plan_skip rfl ?_; simp only [nP]) | (refine pR (v := ?_) rfl (fun W => ?_) ?_; rotate_left; (go_simp <;> with_reducible rfl); simp only [nP])))
          (first | (refine plan_skip rfl ?_; simp only [nP]) | (refine pX (v := ?_) rfl ?_ ?_; rotate_left; (go_simp <;> with_reducible rfl); simp only [nP]))
          (first | (refine plan_skip rfl ?_; simp only [nP]) | (refine pM _ rfl rfl ?_; simp only [nP, nE]))
          iterate 2 ((first | (refine plan_skip rfl ?_; simp only [nP]) | (refine pR (v := ?_) rfl (fun W => ?_) ?_; rotate_left; (go_simp <;> with_reducible rfl); simp only [nP])))
          (first | (refine plan_skip rfl ?_; simp only [nP]) | (refine pX (v := ?_) rfl ?_ ?_; rotate_left; (go_simp <;> with_reducible rfl); simp only [nP]))
          (first | (refine plan_skip rfl ?_; simp only [nP]) | (refine pR (v := ?_) rfl (fun W => ?_) ?_; rotate_left; (go_simp <;> with_reducible rfl); simp only [nP]))
          refine pR (v := ?_) rfl (fun W => ?_) ?_; rotate_left; (go_simp <;> with_reducible rfl); simp only [nP]
          refine pM _ rfl rfl ?_; simp only [nP, nE]
          (first | (refine plan_skip rfl ?_; simp only [nP]) | (refine pM _ rfl rfl ?_; simp only [nP, nE]))
          iterate 2 ((first | (refine plan_skip rfl ?_; simp only [nP]) | (refine pR (v := ?_) rfl (fun W => ?_) ?_; rotate_left; (go_simp <;> with_reducible rfl); simp only [nP])))
          (first | (refine plan_skip rfl ?_; simp only [nP]) | (refine pX (v := ?_) rfl ?_ ?_; rotate_left; (go_simp <;> with_reducible rfl); simp only [nP]))
          (first | (refine plan_skip rfl ?_; simp only [nP]) | (refine pM _ rfl rfl ?_; simp only [nP, nE]))
          iterate 2 ((first | (refine plan_skip rfl ?_; simp only [nP]) | (refine pR (v := ?_) rfl (fun W => ?_) ?_; rotate_left; (go_simp <;> with_reducible rfl); simp only [nP])))
          (first | (refine plan_skip rfl ?_; simp only [nP]) | (refine pX (v := ?_) rfl ?_ ?_; rotate_left; (go_simp <;> with_reducible rfl); simp only [nP]))
          (first | (refine plan_skip rfl ?_; simp only [nP]) | (refine plan_does rfl (fun K hK => ?_)))
          go_wp2_with fail
          skip
          refine (chat_same _ tb tb' J.T Z.T (HT1.out.ext hE0) (HT2.out.ext hE0) HCJ.out.ok HCK.out.ok HCJ.out.len HCK.out.len).mono ?_
          rintro r w3 ⟨rfl, hE1⟩
          have hE3 : Ext w2 w3 := hE0.ext hE1
          rw [HST.out]
          refine hK _ _ ⟨ClsE.of (by assumption), ?_⟩; clear hK K; try simp only [nP]
          refine pR (v := ?_) rfl (fun W => ?_) ?_; rotate_left; (go_simp <;> with_reducible rfl); simp only [nP]
          refine pM _ rfl rfl ?_; simp only [nP, nE]
          (first | (refine plan_skip rfl ?_; simp only [nP]) | (refine pM _ rfl rfl ?_; simp only [nP, nE]))
          iterate 2 ((first | (refine plan_skip rfl ?_; simp only [nP]) | (refine pR (v := ?_) rfl (fun W => ?_) ?_; rotate_left; (go_simp <;> with_reducible rfl); simp only [nP])))
          (first | (refine plan_skip rfl ?_; simp only [nP]) | (refine pL (v := ?_) rfl (fun W => ?_) ?_; rotate_left; (go_simp <;> with_reducible rfl); simp only [nP]))
          (first | (refine plan_skip rfl ?_; simp only [nP]) | (refine pM _ rfl rfl ?_; simp only [nP, nE]))
          iterate 2 ((first | (refine plan_skip rfl ?_; simp only [nP]) | (refine pR (v := ?_) rfl (fun W => ?_) ?_; rotate_left; (go_simp <;> with_reducible rfl); simp only [nP])))
          (first | (refine plan_skip rfl ?_; simp only [nP]) | (refine pL (v := ?_) rfl (fun W => ?_) ?_; rotate_left; (go_simp <;> with_reducible rfl); simp only [nP]))
          refine plan_nil ?_; simp only [tailL, List.filterMap_cons, List.filterMap_nil, nL]; change wpList _ _ _ (_ :: _ :: _ :: []) _ _
          go_wp2_with fail
          refine (maps_equal _ mb mb' J.put Z.put (HM1.out.ext hE3) (HM2.out.ext hE3) HCJ.out.put HCK.out.put).mono ?_
          rintro r w4 ⟨rfl, hE1⟩
          have hE4 : Ext w2 w4 := hE3.ext hE1
          go_wp2_with fail
          go_ret
          exact ⟨by rw [HQ.out]; rfl, by assumption⟩
end Go.Proofs.YthhdgjofagdjeaaGreatDoor
end
section
/- A judge's copy; which of the document's judges are the same. Conditions: they lie as 'JudgeX', 'RefAt' say, and are such as came by things seen. -/
set_option linter.unusedVariables false
set_option linter.unusedSimpArgs false
set_option maxHeartbeats 4000000
set_option maxRecDepth 100000
namespace Go.Proofs.YthhdgjofagdjeaaGreatDoor
open Go.RowKit
theorem info30 : (Tryz.prog.info? 45).map (·.size) = some 30 := by kernel_rfl
def zPJ : List Value := (List.replicate 9 (0 : Int)).map iV ++ ((List.replicate 16 (0 : Int)).map iV ++ [.int .i64 0, .int .i64 0, .int .i64 0, .pointer none, .map none])
theorem zero30 (w : World) : (zeroValue 45).run Tryz.prog w = .ok (.agg zPJ.toArray) w := by kernel_rfl
instance wdPJ : Wd 30 zPJ := ⟨rfl, by
  intro u hu
  simp only [zPJ, List.mem_append, List.mem_cons, List.not_mem_nil, or_false, List.mem_map] at hu
  rcases hu with ⟨x, _, rfl⟩ | (⟨x, _, rfl⟩ | rfl | rfl | rfl | rfl | rfl) <;> rfl⟩
theorem JA.wd (J : JA) (tb mb : Nat) (h9 : J.told.length = 9) (h16 : J.next.length = 16) : Wd 30 (J.cells tb mb) := ⟨by simp [JA.cells, h9, h16], by
  intro u hu
  simp only [JA.cells, List.mem_append, List.mem_cons, List.not_mem_nil, or_false, List.mem_map] at hu
  rcases hu with ⟨x, _, rfl⟩ | (⟨x, _, rfl⟩ | rfl | rfl | rfl | rfl | rfl) <;> rfl⟩
theorem JA.set28 (J : JA) (tb mb tb' mb' : Nat) (h9 : J.told.length = 9) (h16 : J.next.length = 16) : ((J.cells tb mb).set 28 (.pointer (some ⟨tb', 0, none⟩))).set 29 (.map (some mb')) = J.cells tb' mb' := by
  have a1 : (J.told.map iV).length = 9 := by rw [List.length_map, h9]
  have a2 : (J.next.map iV).length = 16 := by rw [List.length_map, h16]
  unfold JA.cells
  rw [List.set_append_right _ _ (by omega), List.set_append_right _ _ (by omega), a1, List.set_append_right _ _ (by omega), List.set_append_right _ _ (by omega), a2]
  rfl
theorem judge_copy {F : Nat → Prop} (w : World) (b : Nat) (J : JA) (h : JudgeX w F b J) (oJ : Came J) :
    Calls Tryz.prog 15 #[.pointer (some ⟨b, 0, none⟩)] w fun e w' => ∃ b', e = .returned (.pointer (some ⟨b', 0, none⟩)) ∧ Upd NoB w w' (judgeR b' J) := by
  have HJX := Lib.hid h
  have HCJ := Lib.hid oJ
  obtain ⟨Ft, tb, mb, hJ⟩ := h
  have HJA := Lib.hid hJ
  have HWD := hJ.l9
  have HWE := JA.wd J tb mb hJ.l9 hJ.l16
  have HM := Lib.hid (Mem.start0 w)
  clear hJ oJ HWD
  go_enter Tryz.func15, Tryz.ntmps15
  go_wp2_with fail
  refine (judge_none w b J HJX.out).mono ?_
  rintro r w1 ⟨rfl, rfl⟩
  have fM := HM.out.fa
  go_wp2_with (first
    | ((with_reducible refine at_list ?_); first
      | ((with_reducible refine at_load 45 _ rfl ?_); refine ldW 45 _ rfl rfl rfl HM.out Tryz.underlying45 rfl info30 ?_)
      | ((first
        | ((with_reducible refine at_store 45 _ _ rfl ?_); refine stW 45 _ _ rfl rfl rfl rfl HM.out info30 ?_; intro w9 M)
        | ((with_reducible refine at_box 45 _ rfl ?_); refine boW 45 _ rfl rfl rfl HM.out ?_; intro w9 n9 M)
        | ((with_reducible refine at_alloc 45 rfl ?_); refine alW 45 rfl rfl (zero30 _) HM.out ?_; intro w9 n9 M)); replace HM := Lib.hid M; clear M; clear fM; have fM := HM.out.fa))
    | (refine wpList_load_wide 45 _ HJA.out.box Tryz.underlying45 rfl (info30.trans (congrArg some HWE.len.symm)) rfl rfl rfl ?_))
  all_goals clear fM
  refine nxt HM fun w2 M => ?_
  clear HM; have HM := M; clear M
  have hat := HJA.out.keeps HM.out.extTo fun _ _ => noB _
  obtain ⟨-, -, -, c28, c29, lt⟩ := hat.see
  have HT2 := Lib.hid hat.talk
  have HM2 := Lib.hid hat.map
  clear hat
  have hE0 : Keeps NoB w2 w2.drew := (Keeps.refl _ _).drew
  refine wp_region_plan [(0, 0), (0, 1), (0, 2), (3, 3), (0, 5), (0, 6), (0, 7), (1, 8), (2, 4)] [8] [4, 9, 10, 11, 12, 13] [9, 10, 11, 12, 13] (ClsE w2) (by kernel_rfl) (by kernel_rfl) (by kernel_rfl) rfl rfl (ClsE.of hE0) (fun _ _ _ d _ h => by cases d <;> exact h) ?_; simp only [planL, nL]
  refine pM _ rfl rfl ?_; simp only [nP, nE]
  iterate 2 (refine pR (v := ?_) rfl (fun W => ?_) ?_; rotate_left; (go_simp <;> with_reducible rfl); simp only [nP])
  refine pX (v := ?_) rfl ?_ ?_; rotate_left; (go_simp <;> with_reducible rfl); simp only [nP]
  refine pM _ rfl rfl ?_; simp only [nP, nE]
  iterate 2 (refine pR (v := ?_) rfl (fun W => ?_) ?_; rotate_left; (go_simp <;> with_reducible rfl); simp only [nP])
  refine pL (v := ?_) rfl (fun W => ?_) ?_; rotate_left; (go_simp <;> with_reducible rfl); simp only [nP]
  refine plan_does rfl (fun K hK => ?_)
  go_wp2_with fail
  skip
  refine Mem.callE (wr := w2) HM.out.to (by repeat (first | assumption | exact Keeps.refl _ _ | with_reducible apply Keeps.drew | with_reducible apply Keeps.alloc)) fun w3 M hE3 => ?_
  replace HM := Lib.hid M
  clear M
  refine (talk_copy w3 tb J.T (HT2.out.ext hE3) HCJ.out.len).mono ?_
  rintro r w4 ⟨tb', Ft', rfl, hT, hE, hF⟩
  replace HM := Lib.hid (HM.out.new (r := talkR tb' J.T) hE hT hF)
  have hE4 := hE3.ext hE
  clear hT hE hF
  refine hK _ _ ⟨ClsE.of (by assumption), ?_⟩; clear hK K; try simp only [nP]
  refine plan_nil ?_; simp only [tailL, List.filterMap_cons, List.filterMap_nil, nL]; change wpList _ _ _ (_ :: _ :: _ :: _ :: _ :: []) _ _
  go_wp2_with fail
  skip
  refine Mem.callE (wr := w2) HM.out.to (by repeat (first | assumption | exact Keeps.refl _ _ | with_reducible apply Keeps.drew | with_reducible apply Keeps.alloc)) fun w5 M hE5 => ?_
  replace HM := Lib.hid M
  clear M
  refine (maps_clone w5 mb J.put (HM2.out.ext hE5)).mono ?_
  rintro r w6 ⟨rfl, hS, hE⟩
  obtain ⟨mb', hmb⟩ : ∃ mb', w5.heap.size = mb' := ⟨_, rfl⟩
  rw [hmb] at hS ⊢
  replace HM := Lib.hid (HM.out.new (r := enR mb' J.put) (G := fun k => k = mb') hE ⟨fun k => Iff.rfl, hS⟩ (fun k hk => by omega))
  have hE6 := hE5.ext hE
  clear hS hE hmb
  clear c28 c29 lt
  obtain ⟨-, -, -, -, -, k28, k29⟩ := J.at tb mb HJA.out.l9 HJA.out.l16
  have fM := HM.out.fa
  go_wp2_with fail
  all_goals clear fM
  go_ret
  refine ⟨_, rfl, ?_⟩
  refine nxt HM fun w7 M => ?_
  clear HM; have HM := M; clear M
  have hj := HJA.out
  rw [J.set28 tb mb tb' mb' hj.l9 hj.l16] at HM
  exact Mem.shutJ HM.out hj.l9 hj.l16 (by with_reducible repeat first | exact ph | apply pt) (by with_reducible repeat first | exact ph | apply pt) (by with_reducible repeat first | exact ph | apply pt)
/-- the document's talks -/
theorem rtalk_same (w : World) (v v' : Value) (S T : TA) (hS : RowAt lnE w 0 v S.l) (hT : RowAt lnE w 0 v' T.l) (h1 : S.l.length ≤ 4096) (h2 : T.l.length ≤ 4096) :
    Calls Tryz.prog 41 #[.agg #[.int .i64 S.slot, v], .agg #[.int .i64 T.slot, v']] w fun e w' => e = .returned (.bool (sameT S T)) ∧ Ext w w' := by
  have HS := Lib.hid hS
  have HT := Lib.hid hT
  have HL1 := Lib.hid h1
  have HL2 := Lib.hid h2
  obtain ⟨a, c, rfl⟩ := hS.len
  obtain ⟨a', c', rfl⟩ := hT.len
  obtain ⟨n1, hn1⟩ : ∃ n1, S.slot = n1 := ⟨_, rfl⟩
  obtain ⟨n2, hn2⟩ : ∃ n2, T.slot = n2 := ⟨_, rfl⟩
  have HDEF : Hid (sameT S T = (decide (n1 = n2) && decide (S.l = T.l))) := Lib.hid (by unfold sameT; rw [hn1, hn2])
  rw [hn1, hn2]
  have HM := Lib.hid (Mem.start0 w)
  clear hS hT h1 h2 hn1 hn2
  by_cases e1 : n1 = n2
  · subst e1
    have HQ : Hid (sameT S T = decide (S.l = T.l)) := Lib.hid (by rw [HDEF.out]; simp)
    clear HDEF
    go_enter Tryz.func41, Tryz.ntmps41
    have fM := HM.out.fa
    go_wp2_with fail
    all_goals clear fM
    refine nxt HM fun w1 M => ?_
    clear HM; have HM := M; clear M
    refine (rlines_same w1 _ _ S.l T.l (HS.out.ext HM.out.extTo) (HT.out.ext HM.out.extTo) HL1.out HL2.out).mono ?_
    rintro r w2 ⟨rfl, hE⟩
    replace HM := Lib.hid (HM.out.ext hE)
    clear hE
    have fM := HM.out.fa
    go_wp2_with fail
    all_goals clear fM
    go_ret
    exact ⟨by rw [HQ.out]; rfl, HM.out.extTo⟩
  · have HQ : Hid (sameT S T = false) := Lib.hid (by rw [HDEF.out, decide_eq_false e1]; rfl)
    have e1' : (n1 == n2) = false := by simpa using e1
    clear HDEF e1
    go_enter Tryz.func41, Tryz.ntmps41
    have fM := HM.out.fa
    go_wp2_with fail
    all_goals clear fM
    go_ret
    refine ⟨by rw [HQ.out]; rfl, ?_⟩
    apply Mem.extTo
    exact HM.out.to
end Go.Proofs.YthhdgjofagdjeaaGreatDoor
end
