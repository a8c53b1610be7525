/- Sets of pairs: maps.Equal and maps.Clone of them. Conditions: they lie as 'SetAt' says. -/
import Derived.Test.YtdiogipdcpiffaaNPlayed
import Derived.Maps.RangeRun
import Derived.Laws.Externs
set_option linter.unusedVariables false
set_option maxHeartbeats 400000
set_option maxRecDepth 10000
namespace Go.Proofs.Ytdiogipdcpiffaa
open Go.RowKit Go.ChangeMaps

section
variable {w w' : World} {m : Nat} {D : List (Int × Int)}
theorem run_has (h : SetAt w m D) {a b : Int} (ha : I64 a) (hb : I64 b) (c : Value) (hc : c = .agg #[.int .i64 a, .int .i64 b]) (d : Bool) (hd : decide ((a, b) ∈ D) = d) :
    (Instr.lookup 70 (.map (some m)) c true).run Try.prog w = .ok (.tuple #[.bool d, .bool d]) w := by
  subst hc hd
  obtain ⟨es, clock, h1, h2, h3, h4⟩ := h
  obtain ⟨l, hl⟩ := pair_key ha hb
  show (Instr.lookup 70 (.map (some m)) (pairV (a, b)) true).run Try.prog w = _
  rcases set_find (w := w) h3 h4 ha hb with ⟨h5, h6⟩ | ⟨j, e, h5, h6, h7, h8⟩
  · simp [Instr.lookup, run_underlying Try.underlying70, Go.MapKept.run_getObj_map h1, pair_law.check w _ hl, h5, Result.andThen, h6]
  · have hm := List.mem_of_getElem? h8
    simp [Instr.lookup, run_underlying Try.underlying70, Go.MapKept.run_getObj_map h1, pair_law.check w _ hl, h5, Result.andThen, hm]
theorem run_count (h : SetAt w m D) (ty : TypeId) : (Builtin.len_ #[70] ty #[.map (some m)]).run Try.prog w = .ok (.int .i64 (D.length : Int)) w := by
  obtain ⟨es, clock, h1, h2, h3, h4⟩ := h
  have hl : es.size = D.length := by simpa using congrArg List.length h3
  rw [← hl]
  simp [Builtin.len_, run_underlying Try.underlying70, Go.MapKept.run_getObj_map h1, Result.andThen]
  rfl
end
theorem setBlock_ne {w : World} {r i : Nat} (o : Obj) (hd : True) (h : ¬ OneB r i) : (setBlock w r o).heap[i]? = w.heap[i]? := by
  unfold setBlock
  simp only
  exact Array.getElem?_setIfInBounds_ne (fun e => h e.symm)
theorem setBlock_eq {w : World} {r : Nat} (h : r < w.heap.size) (o : Obj) : (setBlock w r o).heap[r]? = some o := by
  unfold setBlock
  simp [h]
def sameD (D1 D2 : List (Int × Int)) : Bool := decide (D1.length = D2.length) && D1.all fun p => decide (p ∈ D2)
theorem iterSeen_of {w : World} {r b c : Nat} {a : Option Nat} {s : Array Nat} (h : w.heap[r]? = some (.mapIter a b s c)) : w.iterSeen r = s := by unfold World.iterSeen; rw [h]
theorem left_none {es : Array MapEntry} {seen : Array Nat} (h : (leftOf es seen).size = 0) : ∀ x ∈ es.toList, seen.contains x.born = true := all_seen es seen h
set_option maxHeartbeats 4000000 in
theorem maps_equal (w : World) (m1 m2 : Nat) (D1 D2 : List (Int × Int)) (h1 : SetAt w m1 D1) (h2 : SetAt w m2 D2) (hn1 : D1.length ≤ 1000000) (hn2 : D2.length ≤ 1000000) :
    Calls Try.prog 57 #[.map (some m1), .map (some m2)] w fun e w' => e = .returned (.bool (sameD D1 D2)) ∧ Ext w w' := by
  have l1 := fun ty => run_count h1 ty
  have l2 := fun ty => run_count h2 ty
  have H1 := Lib.hid h1
  have H2 := Lib.hid h2
  have hm1 := h1.lt
  have hm2 := h2.lt
  by_cases hlen : D1.length = D2.length
  · have HS : Hid (sameD D1 D2 = D1.all fun p => decide (p ∈ D2)) := Lib.hid (by unfold sameD; rw [decide_eq_true hlen, Bool.true_and])
    obtain ⟨n, hn⟩ : ∃ n, D1.length = n := ⟨_, rfl⟩
    rw [hn] at l1
    have hn' : D2.length = n := by omega
    rw [hn'] at l2
    obtain ⟨es, clock, hb, hst, hes, hI⟩ := h1
    have hrg := run_range_map (P := Try.prog) w 70 _ _ m1 es clock Try.underlying70 hb
    have HB := Lib.hid hb
    have HST := Lib.hid hst
    have HES := Lib.hid hes
    have HI := Lib.hid hI
    clear hb hst hes hI h2 hlen hn hn'
    go_enter Try.func57, Try.ntmps57
    go_wp2_with fail
    have hw0 : Hid (Ext w (w.alloc (.mapIter (some m1) clock #[] clock))) := Lib.hid ((Keeps.refl _ _).alloc _)
    have hit : Hid ((w.alloc (.mapIter (some m1) clock #[] clock)).heap[w.heap.size]? = some (.mapIter (some m1) clock #[] clock)) := Lib.hid (World.alloc_heap_new w _)
    clear l1 l2 hrg
    go_loopw [] (fun wr => ∃ seen, Hid (Ext w wr) ∧ Hid (wr.heap[w.heap.size]? = some (.mapIter (some m1) clock seen clock)) ∧ Hid (∀ x ∈ es.toList, seen.contains x.born = true → ∀ p, x.key = pairV p → p ∈ D2)) (fun wr => (leftOf es (wr.iterSeen w.heap.size)).size)
    case atStart => exact ⟨#[], hw0, hit, Lib.hid (fun x hx h => by simp at h)⟩
    case round =>
      obtain ⟨seen, HE, HIT, HP⟩ := hrel
      have hb := (HE.out.block m1 hm1 (noB _)).trans HB.out
      have hlw := HE.out.size
      rcases run_next_at (P := Try.prog) wr 0 w.heap.size m1 clock clock seen es clock HIT.out hb HST.out.1 (Nat.le_refl _) with ⟨h0, hrun⟩ | ⟨e, he, w1, hw1, hrun⟩
      · have hnx : ∀ ty, (Instr.next (.pointer (some ⟨w.heap.size, 0, none⟩)) false ty).run Try.prog wr = _ := fun _ => hrun
        have HL := Lib.hid h0
        clear hb h0 hrun
        go_wp2_with fail
        go_ret
        refine ⟨?_, HE.out⟩
        rw [HS.out]
        have hall : (D1.all fun p => decide (p ∈ D2)) = true := by
          rw [List.all_eq_true]
          intro p hp
          obtain ⟨j, hj, rfl⟩ := List.getElem_of_mem hp
          have hlen : es.toList.length = D1.length := by simpa using congrArg List.length HES.out
          have hx : es.toList[j]'(by omega) ∈ es.toList := List.getElem_mem _
          obtain ⟨q, hq, hk, -⟩ := set_get HES.out (List.getElem?_eq_getElem (show j < es.toList.length by omega))
          rw [List.getElem?_eq_getElem hj] at hq
          cases hq
          exact decide_eq_true (HP.out _ hx (left_none HL.out _ hx) _ hk)
        rw [hall]; rfl
      · obtain ⟨hem, -⟩ := mem_left he
        obtain ⟨⟨pa, pb⟩, hpm, hk, hv⟩ := set_mem HES.out hem
        have hI := HI.out _ hpm
        rw [hk, hv] at hrun
        have hit1 : w1.heap[w.heap.size]? = some (.mapIter (some m1) clock seen clock) := by rcases hw1 with rfl | rfl <;> exact HIT.out
        have hwr1 : Ext wr w1 := by rcases hw1 with rfl | rfl; exact Keeps.refl _ _; exact Ext.drew0 _
        have hk2 : Keeps (OneB w.heap.size) w1 (setBlock w1 w.heap.size (.mapIter (some m1) clock (seen.push e.born) clock)) := ⟨rfl, rfl, rfl, by simp [setBlock], fun i _ hi => setBlock_ne _ trivial hi⟩
        have hit2 := setBlock_eq (w := w1) (Array.getElem?_eq_some_iff.1 hit1).1 (.mapIter (some m1) clock (seen.push e.born) clock)
        have hnx : ∀ ty, (Instr.next (.pointer (some ⟨w.heap.size, 0, none⟩)) false ty).run Try.prog wr = .ok (.tuple #[.bool true, .agg #[.int .i64 pa, .int .i64 pb], .bool true]) (setBlock w1 w.heap.size (.mapIter (some m1) clock (seen.push e.born) clock)) := fun _ => hrun
        generalize setBlock w1 w.heap.size (.mapIter (some m1) clock (seen.push e.born) clock) = w2 at hk2 hit2 hnx
        have hE2 : Ext w w2 := (HE.out.ext hwr1).then hk2 (fun i hi h => by unfold OneB at h; omega)
        have hb2 := (hE2.block m1 hm1 (noB _)).trans HB.out
        have hen := run_entry_at (P := Try.prog) w2 w.heap.size m1 clock seen es clock e hit2 hb2 hem HST.out.2.1
        rw [hk, hv] at hen
        simp only [pairV] at hen
        have hE5 : Ext w2 (w2.alloc (Obj.cells #[.int .i64 pa, .int .i64 pb] 78)) := (Keeps.refl _ _).alloc _
        have hit5 := (hE5.block _ (Array.getElem?_eq_some_iff.1 hit2).1 (noB _)).trans hit2
        have hlt2 := hE2.size
        have hmeas := left_shrinks es seen e he
        have HME : Hid ((leftOf es ((w2.alloc (Obj.cells #[.int .i64 pa, .int .i64 pb] 78)).iterSeen w.heap.size)).size < (leftOf es (wr.iterSeen w.heap.size)).size) := Lib.hid (by rw [iterSeen_of hit5, iterSeen_of HIT.out]; exact hmeas)
        have HIT5 := Lib.hid hit5
        have HEE5 := Lib.hid (hE2.ext hE5)
        have HK := Lib.hid hk
        have HEM := Lib.hid hem
        have HPM := Lib.hid hpm
        cases hd : decide ((pa, pb) ∈ D2) with
        | true =>
          have hlk := run_has (H2.out.ext HEE5.out) hI.1 hI.2 _ rfl true hd
          have hmem := of_decide_eq_true hd
          have HP5 : Hid (∀ x ∈ es.toList, (seen.push e.born).contains x.born = true → ∀ p, x.key = pairV p → p ∈ D2) := Lib.hid (fun x hx hc p hp => by
            rw [contains_push] at hc
            rcases Bool.or_eq_true _ _ ▸ hc with h1 | h1
            · exact HP.out x hx h1 p hp
            · have : x = e := born_inj HST.out.2.1 hx HEM.out (beq_iff_eq.1 h1)
              subst this
              have := pairV_inj (HK.out.symm.trans hp)
              rw [← this]; exact hmem)
          clear hrun hk2 hit2 hit5 hE2 hE5 hb2 hb hk hv hem hpm hit1 hwr1 hw1 HP hd hmem hmeas he
          go_wp2_with fail
          go_roundw
          case rel => exact ⟨seen.push e.born, HEE5, HIT5, HP5⟩
          case measure => exact HME.out
        | false =>
          have hlk := run_has (H2.out.ext HEE5.out) hI.1 hI.2 _ rfl false hd
          have HD := Lib.hid (of_decide_eq_false hd)
          clear hrun hk2 hit2 hit5 hE2 hE5 hb2 hb hk hv hem hpm hit1 hwr1 hw1 HP hd hmeas he HME
          go_wp2_with fail
          go_ret
          refine ⟨?_, HEE5.out⟩
          have hall : (D1.all fun p => decide (p ∈ D2)) = false := by
            rw [List.all_eq_false]
            exact ⟨(pa, pb), HPM.out, by simpa using HD.out⟩
          rw [HS.out, hall]; rfl
  · have HS : Hid (sameD D1 D2 = false) := Lib.hid (by unfold sameD; rw [decide_eq_false hlen, Bool.false_and])
    have hne : ¬ ((D1.length : Int) = (D2.length : Int)) := by omega
    clear h1 h2 hlen
    go_enter Try.func57, Try.ntmps57
    go_wp2_with fail
    go_ret
    exact ⟨by rw [HS.out]; rfl, Keeps.refl _ _⟩
theorem eq_mapnil (w : World) (m : Nat) : (binOp .eql 70 (.map (some m)) (.map none)).run Try.prog w = .ok (.bool false) w := by kernel_rfl
theorem run_mclone (w : World) (r : Nat) (es : Array MapEntry) (clock : Nat) (t : TypeId) (hb : w.heap[r]? = some (.map es clock)) :
    (Extern.MapsClone.clone #[.iface t (.map (some r))]).run Try.prog w = .ok (.iface t (.map (some w.heap.size))) (w.alloc (.map es clock)) := by
  have e : Extern.MapsClone.clone #[.iface t (.map (some r))] = (getObj r >>= fun o => match o with
      | .map entries clock => (newObj (.map entries clock) >>= fun n => pure (.iface t (.map (some n))))
      | _ => stuck "maps.clone: a map expected") := rfl
  rw [e]
  simp [Go.MapKept.run_getObj_map hb, Result.andThen, go_sem]
theorem run_tassert (w : World) (v : Value) (xT : TypeId) : (Instr.typeAssert (.iface 70 v) xT 70 false).run Try.prog w = .ok v w := by
  simp [Instr.typeAssert, run_underlying Try.underlying70, go_sem, Result.andThen]
theorem maps_clone (w : World) (m : Nat) (D : List (Int × Int)) (h : SetAt w m D) :
    Calls Try.prog 53 #[.map (some m)] w fun e w' => e = .returned (.map (some w.heap.size)) ∧ SetAt w' w.heap.size D ∧ Ext w w' := by
  have H := Lib.hid h
  obtain ⟨es, clock, hb, hst, hes, hI⟩ := h
  have hq := eq_mapnil w m
  have HB := Lib.hid hb
  have HX : Hid (SetAt (w.alloc (.map es clock)) w.heap.size D) := Lib.hid ⟨es, clock, World.alloc_heap_new w _, hst, hes, hI⟩
  clear hst hes hI hb
  go_enter Try.func53, Try.ntmps53
  go_wp2_with fail
  rw [run_callFunc_extern Try.func65 (by kernel_rfl) (by kernel_rfl) (by kernel_rfl) (e := Extern.MapsClone.clone) (by kernel_rfl), run_mclone w m es clock 70 HB.out]
  simp only [Result.andThen]
  rw [Oper.upon_value]
  go_wp2_with fail
  rw [run_tassert]
  simp only [Result.andThen]
  rw [Oper.upon_value]
  go_wp2_with fail
  go_ret
  exact ⟨rfl, HX.out, (Keeps.refl _ _).alloc _⟩
end Go.Proofs.Ytdiogipdcpiffaa
