/- Texts WB, WC, one behind the other. Conditions: as each says. -/
import Derived.Test.YthhdgjofagdjeaaDoorPkQ
import Derived.BigFrameIn
import Derived.BigGuardIn
section
/- The walk of JudgeLeaves. Conditions: its arguments lie as 'Sns' says; unicode/utf8's two tables read as their initialisers lay them. -/
set_option linter.unusedVariables false
set_option linter.unusedSimpArgs false
set_option maxHeartbeats 8000000
set_option maxRecDepth 100000
namespace Go.Proofs.YthhdgjofagdjeaaDoor
open Go.RowKit Go.Shelf
attribute [local go_sem] Oper.semAt_some
theorem leaves_few {A : Nat → Prop} (w : World) (v : Value) (many : Int) (l : List Sn) (x : Sn) (h : Sns w A v l) (hl : l.length ≤ 9223372036854775807) (hA : ∀ k, A k → k < w.heap.size) (hx : OkS x) (hT : Tabs w) (hf : fewB l 40 = false) :
    Calls Tryd.prog 4 #[v, .int .i64 many, x.v] w fun e w' => e = .returned (.bool true) ∧ Ext w w' := by
  have HV := Lib.hid h
  have HL := Lib.hid hl
  have HA := Lib.hid hA
  have HX := Lib.hid hx
  have HT := Lib.hid hT
  have HM := Lib.hid (Mem.start0 w)
  have HF := Lib.hid hf
  have HXV := Lib.hid (show x.v = .agg #[.int .i64 x.kind, .int .i64 x.who, .int .i64 x.index, .int .i64 x.e.kind, .int .i64 x.e.member, .int .i64 x.e.number, .string (bs x.e.text)] from rfl)
  rw [HXV.out]
  clear h hl hA hx hT hf
  refine (callsIn_wide (n := 9)).1 (callsIn_of_wp_marks Tryd.func4 rfl trivial ?_ rfl)
  simp only [Tryd.ntmps4, List.size_toArray, List.length_cons, List.length_nil, Nat.reduceAdd, Nat.reduceSub, Array.replicate_succ, Array.replicate_zero, List.push_toArray, List.append_toArray, List.nil_append, List.cons_append]
  refine wpIn_wide.2 ?_
  have fM := HM.out.facts
  simp only [seeS, talkR_tag, rowR_tag, enR_tag, judgeR_tag, refR_tag, seqR_tag, sepR_tag, markR_tag] at fM
  go_wp2_with fail
  all_goals clear fM
  first | apply Mem.call | apply Mem.postD | apply Mem.stop | apply Mem.toUpd | apply Mem.list | apply Mem.code | apply Mem.post | apply Mem.postM
  · with_reducible repeat first | exact HM.out | exact ph | apply pt | apply Mem.drew | apply Mem.alloc | apply Mem.set | apply Mem.allocO | (simp only [World.size_alloc, World.size_setCell, World.size_drew]; rfl) | rfl
  intro w1 M
  try simp only [List.set_cons_zero, List.set_cons_succ] at M
  replace HM := Lib.hid M
  clear M
  refine (few_any w1 v l 40 (HV.out.ext HM.out.extTo) HL.out (fun k hk => Nat.lt_of_lt_of_le (HA.out k hk) HM.out.extTo.size)).mono ?_
  rintro r wq ⟨rfl, hwq⟩
  rw [hwq, HF.out]
  clear hwq wq
  have fM := HM.out.facts
  simp only [seeS, talkR_tag, rowR_tag, enR_tag, judgeR_tag, refR_tag, seqR_tag, sepR_tag, markR_tag] at fM
  go_wp2_with fail
  all_goals clear fM
  first | apply Mem.call | apply Mem.postD | apply Mem.stop | apply Mem.toUpd | apply Mem.list | apply Mem.code | apply Mem.post | apply Mem.postM
  · with_reducible repeat first | exact HM.out | exact ph | apply pt | apply Mem.drew | apply Mem.alloc | apply Mem.set | apply Mem.allocO | (simp only [World.size_alloc, World.size_setCell, World.size_drew]; rfl) | rfl
  intro w2 M
  try simp only [List.set_cons_zero, List.set_cons_succ] at M
  replace HM := Lib.hid M
  clear M
  refine (works_any _).mono ?_
  rintro r w3 ⟨rfl, hE⟩
  replace HM := Lib.hid (HM.out.ext hE)
  clear hE
  have fM := HM.out.facts
  simp only [seeS, talkR_tag, rowR_tag, enR_tag, judgeR_tag, refR_tag, seqR_tag, sepR_tag, markR_tag] at fM
  go_wp2_with fail
  all_goals clear fM
  first | apply Mem.call | apply Mem.postD | apply Mem.stop | apply Mem.toUpd | apply Mem.list | apply Mem.code | apply Mem.post | apply Mem.postM
  · with_reducible repeat first | exact HM.out | exact ph | apply pt | apply Mem.drew | apply Mem.alloc | apply Mem.set | apply Mem.allocO | (simp only [World.size_alloc, World.size_setCell, World.size_drew]; rfl) | rfl
  intro w4 M
  try simp only [List.set_cons_zero, List.set_cons_succ] at M
  replace HM := Lib.hid M
  clear M
  refine leaves_marks [] _ (by simp) (by simp) ?_
  intro w' hk
  have hE' : Ext w4 w' := hk.mono fun k _ h => by simp at h
  obtain ⟨Ahb, hb⟩ := HM.out.get (r := cellsR (w.heap.size + 1 + 1) 4 [.bool true]) (by with_reducible repeat first | exact ph | apply pt)
  have q0 := (hb.2.ext hE').reads.1
  exact ⟨.bool true, by simp [results, Tryd.results4, go_sem, q0], rfl, HM.out.extTo.ext hE'⟩
theorem leaves_few2 {A : Nat → Prop} (w : World) (v : Value) (many : Int) (l : List Sn) (x : Sn) (h : Sns w A v l) (hl : l.length ≤ 9223372036854775807) (hA : ∀ k, A k → k < w.heap.size) (hx : OkS x) (hT : Tabs w) (hf : fewB l 40 = true) (hf2 : fewB [x] 1 = false) :
    Calls Tryd.prog 4 #[v, .int .i64 many, x.v] w fun e w' => e = .returned (.bool true) ∧ Ext w w' := by
  have HF2 := Lib.hid hf2
  clear hf2
  have HV := Lib.hid h
  have HL := Lib.hid hl
  have HA := Lib.hid hA
  have HX := Lib.hid hx
  have HT := Lib.hid hT
  have HM := Lib.hid (Mem.start0 w)
  have HF := Lib.hid hf
  have HXV := Lib.hid (show x.v = .agg #[.int .i64 x.kind, .int .i64 x.who, .int .i64 x.index, .int .i64 x.e.kind, .int .i64 x.e.member, .int .i64 x.e.number, .string (bs x.e.text)] from rfl)
  rw [HXV.out]
  clear h hl hA hx hT hf
  refine (callsIn_wide (n := 9)).1 (callsIn_of_wp_marks Tryd.func4 rfl trivial ?_ rfl)
  simp only [Tryd.ntmps4, List.size_toArray, List.length_cons, List.length_nil, Nat.reduceAdd, Nat.reduceSub, Array.replicate_succ, Array.replicate_zero, List.push_toArray, List.append_toArray, List.nil_append, List.cons_append]
  refine wpIn_wide.2 ?_
  have fM := HM.out.facts
  simp only [seeS, talkR_tag, rowR_tag, enR_tag, judgeR_tag, refR_tag, seqR_tag, sepR_tag, markR_tag] at fM
  go_wp2_with fail
  all_goals clear fM
  first | apply Mem.call | apply Mem.postD | apply Mem.stop | apply Mem.toUpd | apply Mem.list | apply Mem.code | apply Mem.post | apply Mem.postM
  · with_reducible repeat first | exact HM.out | exact ph | apply pt | apply Mem.drew | apply Mem.alloc | apply Mem.set | apply Mem.allocO | (simp only [World.size_alloc, World.size_setCell, World.size_drew]; rfl) | rfl
  intro w1 M
  try simp only [List.set_cons_zero, List.set_cons_succ] at M
  replace HM := Lib.hid M
  clear M
  refine (few_any w1 v l 40 (HV.out.ext HM.out.extTo) HL.out (fun k hk => Nat.lt_of_lt_of_le (HA.out k hk) HM.out.extTo.size)).mono ?_
  rintro r wq ⟨rfl, hwq⟩
  rw [hwq, HF.out]
  clear hwq wq
  have fM := HM.out.facts
  simp only [seeS, talkR_tag, rowR_tag, enR_tag, judgeR_tag, refR_tag, seqR_tag, sepR_tag, markR_tag] at fM
  go_wp2_with fail
  all_goals clear fM
  first | apply Mem.call | apply Mem.postD | apply Mem.stop | apply Mem.toUpd | apply Mem.list | apply Mem.code | apply Mem.post | apply Mem.postM
  · with_reducible repeat first | exact HM.out | exact ph | apply pt | apply Mem.drew | apply Mem.alloc | apply Mem.set | apply Mem.allocO | (simp only [World.size_alloc, World.size_setCell, World.size_drew]; rfl) | rfl
  intro w2 M
  try simp only [List.set_cons_zero, List.set_cons_succ] at M
  replace HM := Lib.hid M
  clear M
  obtain ⟨Ahb, hb⟩ := HM.out.get (r := cellsR w1.heap.size 37 [.int .i64 x.kind, .int .i64 x.who, .int .i64 x.index, .int .i64 x.e.kind, .int .i64 x.e.member, .int .i64 x.e.number, .string (bs x.e.text)]) (by with_reducible repeat first | exact ph | apply pt)
  refine (few_any w2 _ [x] 1 (sns_one hb.2 HX.out) (by simp) (fun k hk => by rw [hk]; exact hb.2.lt)).mono ?_
  rintro r wq ⟨rfl, hwq⟩
  rw [hwq, HF2.out]
  clear hwq wq hb
  try clear Ahb
  have fM := HM.out.facts
  simp only [seeS, talkR_tag, rowR_tag, enR_tag, judgeR_tag, refR_tag, seqR_tag, sepR_tag, markR_tag] at fM
  go_wp2_with fail
  all_goals clear fM
  first | apply Mem.call | apply Mem.postD | apply Mem.stop | apply Mem.toUpd | apply Mem.list | apply Mem.code | apply Mem.post | apply Mem.postM
  · with_reducible repeat first | exact HM.out | exact ph | apply pt | apply Mem.drew | apply Mem.alloc | apply Mem.set | apply Mem.allocO | (simp only [World.size_alloc, World.size_setCell, World.size_drew]; rfl) | rfl
  intro w5 M
  try simp only [List.set_cons_zero, List.set_cons_succ] at M
  replace HM := Lib.hid M
  clear M
  refine (works_any _).mono ?_
  rintro r w3 ⟨rfl, hE⟩
  replace HM := Lib.hid (HM.out.ext hE)
  clear hE
  have fM := HM.out.facts
  simp only [seeS, talkR_tag, rowR_tag, enR_tag, judgeR_tag, refR_tag, seqR_tag, sepR_tag, markR_tag] at fM
  go_wp2_with fail
  all_goals clear fM
  first | apply Mem.call | apply Mem.postD | apply Mem.stop | apply Mem.toUpd | apply Mem.list | apply Mem.code | apply Mem.post | apply Mem.postM
  · with_reducible repeat first | exact HM.out | exact ph | apply pt | apply Mem.drew | apply Mem.alloc | apply Mem.set | apply Mem.allocO | (simp only [World.size_alloc, World.size_setCell, World.size_drew]; rfl) | rfl
  intro w4 M
  try simp only [List.set_cons_zero, List.set_cons_succ] at M
  replace HM := Lib.hid M
  clear M
  refine leaves_marks [] _ (by simp) (by simp) ?_
  intro w' hk
  have hE' : Ext w4 w' := hk.mono fun k _ h => by simp at h
  obtain ⟨Ahb, hb⟩ := HM.out.get (r := cellsR (w.heap.size + 1 + 1) 4 [.bool true]) (by with_reducible repeat first | exact ph | apply pt)
  have q0 := (hb.2.ext hE').reads.1
  exact ⟨.bool true, by simp [results, Tryd.results4, go_sem, q0], rfl, HM.out.extTo.ext hE'⟩
theorem leaves_in {A : Nat → Prop} (w : World) (v : Value) (many : Int) (l : List Sn) (x : Sn) (h : Sns w A v l) (hl : l.length ≤ 9223372036854775807) (hA : ∀ k, A k → k < w.heap.size) (hx : OkS x) (hT : Tabs w) (hf : fewB l 40 = true) (hf2 : fewB [x] 1 = true) :
    Calls Tryd.prog 4 #[v, .int .i64 many, x.v] w fun e w' => e = .returned (.bool true) ∧ Ext w w' := by
  have HF2 := Lib.hid hf2
  clear hf2
  have HV := Lib.hid h
  have HL := Lib.hid hl
  have HA := Lib.hid hA
  have HX := Lib.hid hx
  have HT := Lib.hid hT
  have HM := Lib.hid (Mem.start0 w)
  have HF := Lib.hid hf
  have HXV := Lib.hid (show x.v = .agg #[.int .i64 x.kind, .int .i64 x.who, .int .i64 x.index, .int .i64 x.e.kind, .int .i64 x.e.member, .int .i64 x.e.number, .string (bs x.e.text)] from rfl)
  rw [HXV.out]
  clear h hl hA hx hT hf
  refine (callsIn_wide (n := 9)).1 (callsIn_of_wp_marks Tryd.func4 rfl trivial ?_ rfl)
  simp only [Tryd.ntmps4, List.size_toArray, List.length_cons, List.length_nil, Nat.reduceAdd, Nat.reduceSub, Array.replicate_succ, Array.replicate_zero, List.push_toArray, List.append_toArray, List.nil_append, List.cons_append]
  refine wpIn_wide.2 ?_
  have fM := HM.out.facts
  simp only [seeS, talkR_tag, rowR_tag, enR_tag, judgeR_tag, refR_tag, seqR_tag, sepR_tag, markR_tag] at fM
  go_wp2_with fail
  all_goals clear fM
  first | apply Mem.call | apply Mem.postD | apply Mem.stop | apply Mem.toUpd | apply Mem.list | apply Mem.code | apply Mem.post | apply Mem.postM
  · with_reducible repeat first | exact HM.out | exact ph | apply pt | apply Mem.drew | apply Mem.alloc | apply Mem.set | apply Mem.allocO | (simp only [World.size_alloc, World.size_setCell, World.size_drew]; rfl) | rfl
  intro w1 M
  try simp only [List.set_cons_zero, List.set_cons_succ] at M
  replace HM := Lib.hid M
  clear M
  refine (few_any w1 v l 40 (HV.out.ext HM.out.extTo) HL.out (fun k hk => Nat.lt_of_lt_of_le (HA.out k hk) HM.out.extTo.size)).mono ?_
  rintro r wq ⟨rfl, hwq⟩
  rw [hwq, HF.out]
  clear hwq wq
  have fM := HM.out.facts
  simp only [seeS, talkR_tag, rowR_tag, enR_tag, judgeR_tag, refR_tag, seqR_tag, sepR_tag, markR_tag] at fM
  go_wp2_with fail
  all_goals clear fM
  first | apply Mem.call | apply Mem.postD | apply Mem.stop | apply Mem.toUpd | apply Mem.list | apply Mem.code | apply Mem.post | apply Mem.postM
  · with_reducible repeat first | exact HM.out | exact ph | apply pt | apply Mem.drew | apply Mem.alloc | apply Mem.set | apply Mem.allocO | (simp only [World.size_alloc, World.size_setCell, World.size_drew]; rfl) | rfl
  intro w2 M
  try simp only [List.set_cons_zero, List.set_cons_succ] at M
  replace HM := Lib.hid M
  clear M
  obtain ⟨Ahb, hb⟩ := HM.out.get (r := cellsR w1.heap.size 37 [.int .i64 x.kind, .int .i64 x.who, .int .i64 x.index, .int .i64 x.e.kind, .int .i64 x.e.member, .int .i64 x.e.number, .string (bs x.e.text)]) (by with_reducible repeat first | exact ph | apply pt)
  refine (few_any w2 _ [x] 1 (sns_one hb.2 HX.out) (by simp) (fun k hk => by rw [hk]; exact hb.2.lt)).mono ?_
  rintro r wq ⟨rfl, hwq⟩
  rw [hwq, HF2.out]
  clear hwq wq hb
  try clear Ahb
  have fM := HM.out.facts
  simp only [seeS, talkR_tag, rowR_tag, enR_tag, judgeR_tag, refR_tag, seqR_tag, sepR_tag, markR_tag] at fM
  go_wp2_with fail
  all_goals clear fM
  first | apply Mem.call | apply Mem.postD | apply Mem.stop | apply Mem.toUpd | apply Mem.list | apply Mem.code | apply Mem.post | apply Mem.postM
  · with_reducible repeat first | exact HM.out | exact ph | apply pt | apply Mem.drew | apply Mem.alloc | apply Mem.set | apply Mem.allocO | (simp only [World.size_alloc, World.size_setCell, World.size_drew]; rfl) | rfl
  intro w3 M
  try simp only [List.set_cons_zero, List.set_cons_succ] at M
  replace HM := Lib.hid M
  clear M
  refine (judge_new_ok w3 3 4 (by unfold RightC; decide) (by decide) (by decide)).mono ?_
  rintro r w4 ⟨b, F, rfl, hJ, hE, hN⟩
  replace HM := Lib.hid (HM.out.new (r := judgeR b (J0 3 4)) hE hJ hN)
  clear hJ hE hN
  have fM := HM.out.facts
  simp only [seeS, talkR_tag, rowR_tag, enR_tag, judgeR_tag, refR_tag, seqR_tag, sepR_tag, markR_tag] at fM
  go_wp2_with fail
  all_goals clear fM
  first | apply Mem.call | apply Mem.postD | apply Mem.stop | apply Mem.toUpd | apply Mem.list | apply Mem.code | apply Mem.post | apply Mem.postM
  · with_reducible repeat first | exact HM.out | exact ph | apply pt | apply Mem.drew | apply Mem.alloc | apply Mem.set | apply Mem.allocO | (simp only [World.size_alloc, World.size_setCell, World.size_drew]; rfl) | rfl
  intro w5 M
  try simp only [List.set_cons_zero, List.set_cons_succ] at M
  replace HM := Lib.hid M
  clear M
  refine (rnew_any w5 3 4 (by unfold RightC; decide) (by decide) (by decide)).mono ?_
  rintro r w6 ⟨cs, rfl, hR, hE⟩
  replace HM := Lib.hid (HM.out.new (r := refR cs (J0 3 4)) hE ⟨hR, fun k h => (noB _ h).elim⟩ (fun k h => (noB _ h).elim))
  obtain ⟨-, -, -, -, hlen, hone, -⟩ := hR.open
  have HLEN := Lib.hid hlen
  have HONE := Lib.hid hone
  clear hR hE hlen hone
  have fM := HM.out.facts
  simp only [seeS, talkR_tag, rowR_tag, enR_tag, judgeR_tag, refR_tag, seqR_tag, sepR_tag, markR_tag] at fM
  go_wp2_with (first
    | ((with_reducible refine at_list ?_); first
      | ((with_reducible refine at_load 49 _ rfl ?_); refine mem_load_wide 49 _ rfl rfl rfl (by with_reducible repeat first | exact HM.out | exact ph | apply pt | apply Mem.drew | apply Mem.alloc | apply Mem.set | apply Mem.allocO | (simp only [World.size_alloc, World.size_setCell, World.size_drew]; rfl) | rfl) (by with_reducible repeat first | exact ph | apply pt) Tryd.underlying49 rfl (infoRJ.trans (congrArg some (Eq.symm (by first | rfl | exact HLEN.out | exact HLEN1.out | (simp only [List.length_set]; first | exact HLEN.out | exact HLEN1.out))))) ?_)
      | ((first
        | ((with_reducible refine at_store 49 _ _ rfl ?_); refine mem_store_wide 49 _ _ rfl rfl rfl rfl (by with_reducible repeat first | exact HM.out | exact ph | apply pt | apply Mem.drew | apply Mem.alloc | apply Mem.set | apply Mem.allocO | (simp only [World.size_alloc, World.size_setCell, World.size_drew]; rfl) | rfl) (by with_reducible repeat first | exact ph | apply pt) infoRJ (by first | rfl | exact HLEN.out | exact HLEN1.out | (simp only [List.length_set]; first | exact HLEN.out | exact HLEN1.out)) (by first | rfl | exact HLEN.out | exact HLEN1.out | (simp only [List.length_set]; first | exact HLEN.out | exact HLEN1.out)) (by (repeat refine one_set ?_ rfl _); first | exact HONE.out | exact HONE1.out) ?_; intro w9 M)
        | ((with_reducible refine at_box 49 _ rfl ?_); refine mem_box_wide 49 _ rfl rfl rfl (by with_reducible repeat first | exact HM.out | exact ph | apply pt | apply Mem.drew | apply Mem.alloc | apply Mem.set | apply Mem.allocO | (simp only [World.size_alloc, World.size_setCell, World.size_drew]; rfl) | rfl) ?_; intro w9 n9 M)
        | ((with_reducible refine at_alloc 49 rfl ?_); refine mem_alloc_wide 49 rfl rfl (zeroRJ _) (by with_reducible repeat first | exact HM.out | exact ph | apply pt | apply Mem.drew | apply Mem.alloc | apply Mem.set | apply Mem.allocO | (simp only [World.size_alloc, World.size_setCell, World.size_drew]; rfl) | rfl) ?_; intro w9 n9 M)); (try simp only [List.set_cons_zero, List.set_cons_succ] at M); replace HM := Lib.hid M; clear M; clear fM; have fM := HM.out.facts; simp only [seeS, talkR_tag, rowR_tag, enR_tag, judgeR_tag, refR_tag, seqR_tag, sepR_tag, markR_tag] at fM)))
  all_goals clear fM
  first | apply Mem.call | apply Mem.postD | apply Mem.stop | apply Mem.toUpd | apply Mem.list | apply Mem.code | apply Mem.post | apply Mem.postM
  · with_reducible repeat first | exact HM.out | exact ph | apply pt | apply Mem.drew | apply Mem.alloc | apply Mem.set | apply Mem.allocO | (simp only [World.size_alloc, World.size_setCell, World.size_drew]; rfl) | rfl
  intro w7 M
  try simp only [List.set_cons_zero, List.set_cons_succ] at M
  replace HM := Lib.hid M
  clear M
  go_loopw [11] (fun i wr => ∃ (k : Nat) (cs : List Value), k ≤ l.length ∧ i = .int .i64 k ∧ Hid (cs.length = 31) ∧ Hid (∀ u ∈ cs, u.oneCell' = true) ∧ Hid (Mem NoB w wr [cellsR n9 49 cs, refR cs (sees (J0 3 4) (l.take k)), judgeR b (sees (J0 3 4) (l.take k)), cellsR (w.heap.size + 1 + 1) 4 [.bool false], cellsR (w.heap.size + 1) 37 [.int .i64 x.kind, .int .i64 x.who, .int .i64 x.index, .int .i64 x.e.kind, .int .i64 x.e.member, .int .i64 x.e.number, .string (bs x.e.text)], cellsR w.heap.size 3 [.int .i64 many]])) (fun i _ => l.length - (intOf i).toNat)
  case atStart =>
    refine ⟨0, cs, Nat.zero_le _, rfl, HLEN, HONE, Lib.hid ?_⟩
    rw [show sees (J0 3 4) (l.take 0) = J0 3 4 from rfl]
    exact Mem.sub HM.out (by repeat first | exact Sub.nil | refine Sub.cons (by with_reducible repeat first | exact ph | apply pt) ?_)
  case round =>
    clear HLEN HONE HM
    obtain ⟨k, cs, hk, rfl, HLEN, HONE, HM⟩ := hrel
    obtain ⟨hfx, hfl⟩ := fewB_text HF.out
    by_cases hlt : k < l.length
    · have hok := sees_ok (l.take k) (J0 3 4) (OkJ.new (by unfold RightC; decide) (by decide)) T0_ok
      have hsn : sees (J0 3 4) (l.take (k + 1)) = (seeR (sees (J0 3 4) (l.take k)) l[k]).1 := by rw [List.take_succ_eq_append_getElem hlt, sees_snoc]
      obtain ⟨J, hJ⟩ : ∃ J, sees (J0 3 4) (l.take k) = J := ⟨_, rfl⟩
      rw [hJ] at hok hsn HM
      obtain ⟨a, c, rfl⟩ := HV.out.len
      obtain ⟨g, o, rfl, -⟩ := (HV.out.ext HM.out.extTo).at k hlt
      have hox := HV.out.ok _ (List.getElem_mem hlt)
      have hxt := hfx _ (List.getElem_mem hlt)
      obtain ⟨y, hy⟩ : ∃ y, l[k] = y := ⟨_, rfl⟩
      rw [hy] at hsn hox hxt
      have HYE := Lib.hid hy
      obtain ⟨g2, o2, hgo, hg, -, hx⟩ := (HV.out.ext HM.out.extTo).at k hlt
      cases hgo
      rw [HYE.out] at hx
      have hgl : g < wr.heap.size := Nat.lt_of_lt_of_le (HA.out g hg) HM.out.extTo.size
      have d0 : wr.cell? ⟨g, o + k * 7, none⟩ = some (.int .i64 y.kind) := hx 0 (by decide)
      have d1 : wr.cell? ⟨g, o + k * 7 + 1, none⟩ = some (.int .i64 y.who) := hx 1 (by decide)
      have d2 : wr.cell? ⟨g, o + k * 7 + 2, none⟩ = some (.int .i64 y.index) := hx 2 (by decide)
      have d3 : wr.cell? ⟨g, o + k * 7 + 3, none⟩ = some (.int .i64 y.e.kind) := hx 3 (by decide)
      have d4 : wr.cell? ⟨g, o + k * 7 + 4, none⟩ = some (.int .i64 y.e.member) := hx 4 (by decide)
      have d5 : wr.cell? ⟨g, o + k * 7 + 5, none⟩ = some (.int .i64 y.e.number) := hx 5 (by decide)
      have d6 : wr.cell? ⟨g, o + k * 7 + 6, none⟩ = some (.string (bs y.e.text)) := hx 6 (by decide)
      clear hx hg
      have g1 : (k : Int) < (l.length : Int) := by omega
      have g2 : ¬ (k : Int) < 0 := by omega
      have g3 : (k : Int) < 40 := by omega
      have HOK := Lib.hid hok
      have HSN := Lib.hid hsn
      have HOX := Lib.hid hox
      have HXT := Lib.hid hxt
      have HYV := Lib.hid (show y.v = .agg #[.int .i64 y.kind, .int .i64 y.who, .int .i64 y.index, .int .i64 y.e.kind, .int .i64 y.e.member, .int .i64 y.e.number, .string (bs y.e.text)] from rfl)
      clear hok hsn hox hxt hJ hy hfx hfl
      have fM := HM.out.facts
      simp only [seeS, talkR_tag, rowR_tag, enR_tag, judgeR_tag, refR_tag, seqR_tag, sepR_tag, markR_tag] at fM
      go_wp2_with fail
      refine wp_region_noPanic ?_
      have hE0 : Keeps NoB wr wr.drew := (Keeps.refl _ _).drew
      refine wp_region_plan [(3, 0), (0, 1), (0, 2), (0, 3), (3, 4), (2, 5), (0, 6), (0, 7), (0, 8)] [] [5, 9] [9] (ClsE wr) (by kernel_rfl) (by kernel_rfl) (by kernel_rfl) rfl rfl (ClsE.of hE0) (fun _ _ _ _ _ h => h) ?_; simp only [planL, List.getElem?_toArray, List.getElem?_cons_succ, List.getElem?_cons_zero]
      refine plan_exact rfl (fun K hK => quiet_runX (v := .agg (cs).toArray) (exec_load_wide 49 _ rfl rfl (by repeat (first | with_reducible exact HM.out | with_reducible exact Pick.here | with_reducible apply Pick.there | with_reducible apply Mem.drew | with_reducible apply Mem.alloc | with_reducible apply Mem.set | with_reducible apply Mem.allocO | (simp only [World.size_alloc, World.size_setCell, World.size_drew]; with_reducible rfl) | with_reducible rfl)) (by repeat (first | with_reducible exact Pick.here | with_reducible apply Pick.there)) Tryd.underlying49 rfl (infoRJ.trans (congrArg some (Eq.symm (by first | with_reducible rfl | rfl | ((try simp only [List.length_set]); first | exact HLEN.out | exact HLEN1.out | exact HLEN2.out)))))) (hK _ ?_)); clear hK K; simp only [nP]
      refine plan_pure rfl (fun K hK => quiet_move' _ rfl (hK _ ?_)); clear hK K; simp only [nP, nE]
      refine plan_pure rfl (fun K hK => quiet_move' _ rfl (hK _ ?_)); clear hK K; simp only [nP, nE]
      refine plan_pure rfl (fun K hK => quiet_run (v := ?_) (fun W _ => ?_) (hK _ ?_)); rotate_left; (go_simp <;> with_reducible rfl); clear hK K; simp only [nP]
      refine plan_exact rfl (fun K hK => quiet_runX (v := ?_) ?_ (hK _ ?_)); rotate_left; (go_simp <;> with_reducible rfl); clear hK K; simp only [nP]
      refine plan_does rfl (fun K hK => ?_)
      go_wp2_with fail
      skip
      rw [← HYV.out]
      obtain ⟨A', hA', -, hS⟩ := ((HM.out.drew).pick (r := refR cs J) (by with_reducible repeat first | exact ph | apply pt)).step'
      refine Calls.mono (rsee_any wr.drew J cs y hA'.1 hA'.2 ⟨HOK.out.1, HOK.out.2.1, by have := HOK.out.2.2; rw [List.length_take] at this; have : (J0 3 4).put.length = 0 := rfl; omega⟩ (by have := HOK.out.2.2; rw [List.length_take] at this; have : (J0 3 4).put.length = 0 := rfl; omega) (by have := HXT.out; omega)) ?_
      rintro r w2 ⟨cs', rfl, hR', hE⟩
      have hE2 : Ext wr w2 := hE0.ext hE
      obtain ⟨-, -, -, -, hlen', hone', -⟩ := hR'.open
      have HLEN1 := Lib.hid hlen'
      have HONE1 := Lib.hid hone'
      replace HM := Lib.hid (hS _ _ (hR'.upd hE))
      clear hA' hS hR' hE hlen' hone'
      refine hK _ _ ⟨ClsE.of (by assumption), ?_⟩; clear hK K; try simp only [nP]
      refine plan_pure rfl (fun K hK => quiet_move' _ rfl (hK _ ?_)); clear hK K; simp only [nP, nE]
      refine plan_pure rfl (fun K hK => quiet_run (v := ?_) (fun W _ => ?_) (hK _ ?_)); rotate_left; (go_simp <;> with_reducible rfl); clear hK K; simp only [nP]
      refine plan_pure rfl (fun K hK => quiet_run (v := ?_) (fun W _ => ?_) (hK _ ?_)); rotate_left; (go_simp <;> with_reducible rfl); clear hK K; simp only [nP]
      refine plan_nil ?_; simp only [tailL, List.filterMap_cons, List.filterMap_nil, List.getElem?_toArray, List.getElem?_cons_succ, List.getElem?_cons_zero]; change wpList _ _ _ (_ :: []) _ _
      clear fM
      have fM := HM.out.facts
      simp only [seeS, talkR_tag, rowR_tag, enR_tag, judgeR_tag, refR_tag, seqR_tag, sepR_tag, markR_tag] at fM
      go_wp2_with (first
        | ((with_reducible refine at_list ?_); first
          | ((with_reducible refine at_load 49 _ rfl ?_); refine mem_load_wide 49 _ rfl rfl rfl (by with_reducible repeat first | exact HM.out | exact ph | apply pt | apply Mem.drew | apply Mem.alloc | apply Mem.set | apply Mem.allocO | (simp only [World.size_alloc, World.size_setCell, World.size_drew]; rfl) | rfl) (by with_reducible repeat first | exact ph | apply pt) Tryd.underlying49 rfl (infoRJ.trans (congrArg some (Eq.symm (by first | rfl | exact HLEN.out | exact HLEN1.out | (simp only [List.length_set]; first | exact HLEN.out | exact HLEN1.out))))) ?_)
          | ((first
            | ((with_reducible refine at_store 49 _ _ rfl ?_); refine mem_store_wide 49 _ _ rfl rfl rfl rfl (by with_reducible repeat first | exact HM.out | exact ph | apply pt | apply Mem.drew | apply Mem.alloc | apply Mem.set | apply Mem.allocO | (simp only [World.size_alloc, World.size_setCell, World.size_drew]; rfl) | rfl) (by with_reducible repeat first | exact ph | apply pt) infoRJ (by first | rfl | exact HLEN.out | exact HLEN1.out | (simp only [List.length_set]; first | exact HLEN.out | exact HLEN1.out)) (by first | rfl | exact HLEN.out | exact HLEN1.out | (simp only [List.length_set]; first | exact HLEN.out | exact HLEN1.out)) (by (repeat refine one_set ?_ rfl _); first | exact HONE.out | exact HONE1.out) ?_; intro w9 M)
            | ((with_reducible refine at_box 49 _ rfl ?_); refine mem_box_wide 49 _ rfl rfl rfl (by with_reducible repeat first | exact HM.out | exact ph | apply pt | apply Mem.drew | apply Mem.alloc | apply Mem.set | apply Mem.allocO | (simp only [World.size_alloc, World.size_setCell, World.size_drew]; rfl) | rfl) ?_; intro w9 n9 M)
            | ((with_reducible refine at_alloc 49 rfl ?_); refine mem_alloc_wide 49 rfl rfl (zeroRJ _) (by with_reducible repeat first | exact HM.out | exact ph | apply pt | apply Mem.drew | apply Mem.alloc | apply Mem.set | apply Mem.allocO | (simp only [World.size_alloc, World.size_setCell, World.size_drew]; rfl) | rfl) ?_; intro w9 n9 M)); (try simp only [List.set_cons_zero, List.set_cons_succ] at M); replace HM := Lib.hid M; clear M; clear fM; have fM := HM.out.facts; simp only [seeS, talkR_tag, rowR_tag, enR_tag, judgeR_tag, refR_tag, seqR_tag, sepR_tag, markR_tag] at fM)))
      all_goals clear fM
      refine NoPanic.ok ?_
      clear d0 d1 d2 d3 d4 d5 d6 hE2 hE0
      obtain ⟨g2, o2, hgo, hg, -, hx⟩ := (HV.out.ext HM.out.extTo).at k hlt
      cases hgo
      rw [HYE.out] at hx
      have hgl : g < w9.heap.size := Nat.lt_of_lt_of_le (HA.out g hg) HM.out.extTo.size
      have d0 : w9.cell? ⟨g, o + k * 7, none⟩ = some (.int .i64 y.kind) := hx 0 (by decide)
      have d1 : w9.cell? ⟨g, o + k * 7 + 1, none⟩ = some (.int .i64 y.who) := hx 1 (by decide)
      have d2 : w9.cell? ⟨g, o + k * 7 + 2, none⟩ = some (.int .i64 y.index) := hx 2 (by decide)
      have d3 : w9.cell? ⟨g, o + k * 7 + 3, none⟩ = some (.int .i64 y.e.kind) := hx 3 (by decide)
      have d4 : w9.cell? ⟨g, o + k * 7 + 4, none⟩ = some (.int .i64 y.e.member) := hx 4 (by decide)
      have d5 : w9.cell? ⟨g, o + k * 7 + 5, none⟩ = some (.int .i64 y.e.number) := hx 5 (by decide)
      have d6 : w9.cell? ⟨g, o + k * 7 + 6, none⟩ = some (.string (bs y.e.text)) := hx 6 (by decide)
      clear hx hg
      have fM := HM.out.facts
      simp only [seeS, talkR_tag, rowR_tag, enR_tag, judgeR_tag, refR_tag, seqR_tag, sepR_tag, markR_tag] at fM
      go_wp2_with fail
      all_goals clear fM
      rw [← HYV.out]
      clear d0 d1 d2 d3 d4 d5 d6
      obtain ⟨A', hA', hAF, hS⟩ := (HM.out.pick (r := judgeR b J) (by with_reducible repeat first | exact ph | apply pt)).step'
      have hk1 := HM.out.keepsTo
      refine (see_any w9 b J y hA' HOK.out.1 (HOX.out).e (HOX.out).kind (HOX.out).e.1 (fun h w2 h2 => check_chk w w2 HT.out (hk1.then h2 fun i hi h => by
        rcases hAF i h with h | h
        · exact h
        · omega) (y).e.text (by have := HXT.out; omega))).mono ?_
      rintro r w11 ⟨rfl, hU⟩
      replace HM := Lib.hid (hS _ _ hU)
      clear hU hA' hAF hS hk1
      clear A'
      have fM := HM.out.facts
      simp only [seeS, talkR_tag, rowR_tag, enR_tag, judgeR_tag, refR_tag, seqR_tag, sepR_tag, markR_tag] at fM
      go_wp2_with fail
      all_goals clear fM
      go_roundw
      case rel =>
        refine ⟨k + 1, cs', by omega, by go_num, HLEN1, HONE1, Lib.hid ?_⟩
        rw [HSN.out]
        exact Mem.sub HM.out (by repeat first | exact Sub.nil | refine Sub.cons (by with_reducible repeat first | exact ph | apply pt) ?_)
      case measure => simp [intOf]; omega
    · obtain rfl : k = l.length := by omega
      rw [List.take_length] at HM
      clear hlt hk hfl
      have hxt := (fewB_text HF2.out).1 x (by simp)
      have HXT := Lib.hid hxt
      clear hfx hxt
      have hok := sees_ok l (J0 3 4) (OkJ.new (by unfold RightC; decide) (by decide)) T0_ok
      obtain ⟨J, hJ⟩ : ∃ J, sees (J0 3 4) l = J := ⟨_, rfl⟩
      rw [hJ] at hok HM
      have HOK := Lib.hid hok
      have hlen : J.T.l.length ≤ 4096 := by have := hok.1.slot; have := hok.1.slot4; omega
      have HLN := Lib.hid hlen
      obtain ⟨Ahr, hr⟩ := HM.out.get (r := refR cs J) (by with_reducible repeat first | exact ph | apply pt)
      obtain ⟨al, cl, ap, cp, -, -, -, -, -, c3, -, -, -, -, -, -⟩ := hr.1.open
      clear hok hJ hr hlen
      try clear Ahr
      obtain ⟨a, c, rfl⟩ := HV.out.len
      have fM := HM.out.facts
      simp only [seeS, talkR_tag, rowR_tag, enR_tag, judgeR_tag, refR_tag, seqR_tag, sepR_tag, markR_tag] at fM
      go_wp2_with fail
      all_goals clear fM
      first | apply Mem.call | apply Mem.postD | apply Mem.stop | apply Mem.toUpd | apply Mem.list | apply Mem.code | apply Mem.post | apply Mem.postM
      · with_reducible repeat first | exact HM.out | exact ph | apply pt | apply Mem.drew | apply Mem.alloc | apply Mem.set | apply Mem.allocO | (simp only [World.size_alloc, World.size_setCell, World.size_drew]; rfl) | rfl
      intro w8 M
      try simp only [List.set_cons_zero, List.set_cons_succ] at M
      replace HM := Lib.hid M
      clear M
      obtain ⟨Ahj, hj⟩ := HM.out.get (r := judgeR b J) (by with_reducible repeat first | exact ph | apply pt)
      refine (whole_any w8 b J hj HLN.out).mono ?_
      rintro r w10 ⟨q, b', F', rfl, hq, hT', hE, hq0, hF'⟩
      replace HM := Lib.hid (HM.out.new (r := seqR q b' J.T) (G := fun k => k = q ∨ F' k) hE ⟨F', fun k => Iff.rfl, hq, hT'⟩ (fun k hk => by rcases hk with rfl | hk; exact hq0; exact hF' k hk))
      clear hj hq hT' hE hq0 hF'
      clear F' Ahj
      have fM := HM.out.facts
      simp only [seeS, talkR_tag, rowR_tag, enR_tag, judgeR_tag, refR_tag, seqR_tag, sepR_tag, markR_tag] at fM
      go_wp2_with fail
      all_goals clear fM
      rw [← HXV.out]
      obtain ⟨A', hA', hAF, hS⟩ := (HM.out.pick (r := judgeR b J) (by with_reducible repeat first | exact ph | apply pt)).step'
      have hk1 := HM.out.keepsTo
      refine (see_any w10 b J x hA' HOK.out.1 (HX.out).e (HX.out).kind (HX.out).e.1 (fun h w2 h2 => check_chk w w2 HT.out (hk1.then h2 fun i hi h => by
        rcases hAF i h with h | h
        · exact h
        · omega) (x).e.text (by have := HXT.out; omega))).mono ?_
      rintro r w11 ⟨rfl, hU⟩
      replace HM := Lib.hid (hS _ _ hU)
      clear hU hA' hAF hS hk1
      clear A'
      have fM := HM.out.facts
      simp only [seeS, talkR_tag, rowR_tag, enR_tag, judgeR_tag, refR_tag, seqR_tag, sepR_tag, markR_tag] at fM
      go_wp2_with fail
      all_goals clear fM
      first | apply Mem.call | apply Mem.postD | apply Mem.stop | apply Mem.toUpd | apply Mem.list | apply Mem.code | apply Mem.post | apply Mem.postM
      · with_reducible repeat first | exact HM.out | exact ph | apply pt | apply Mem.drew | apply Mem.alloc | apply Mem.set | apply Mem.allocO | (simp only [World.size_alloc, World.size_setCell, World.size_drew]; rfl) | rfl
      intro w12 M
      try simp only [List.set_cons_zero, List.set_cons_succ] at M
      replace HM := Lib.hid M
      clear M
      refine wp_loop_rounds 3 ?_
      rw [rounds_succ]
      have hsn := fun w => seq_nil2 w (some ⟨q, 0, none⟩)
      have fM := HM.out.facts
      simp only [seeS, talkR_tag, rowR_tag, enR_tag, judgeR_tag, refR_tag, seqR_tag, sepR_tag, markR_tag] at fM
      go_wp2_with fail
      all_goals clear fM
      clear hsn
      first | apply Mem.call | apply Mem.postD | apply Mem.stop | apply Mem.toUpd | apply Mem.list | apply Mem.code | apply Mem.post | apply Mem.postM
      · with_reducible repeat first | exact HM.out | exact ph | apply pt | apply Mem.drew | apply Mem.alloc | apply Mem.set | apply Mem.allocO | (simp only [World.size_alloc, World.size_setCell, World.size_drew]; rfl) | rfl
      intro w13 M
      try simp only [List.set_cons_zero, List.set_cons_succ] at M
      replace HM := Lib.hid M
      clear M
      obtain ⟨nb, hnb⟩ : ∃ nb, w12.heap.size = nb := ⟨_, rfl⟩
      obtain ⟨tn, htn⟩ : ∃ tn, w11.heap.size = tn := ⟨_, rfl⟩
      rw [hnb, htn] at HM
      rw [hnb, htn]
      clear hnb htn
      refine (wpIn_wide (n := 9)).1 ?_
      obtain ⟨A1, A2, hn1, ⟨F', hF1, hq2, hq3⟩, hd⟩ := HM.out.apart (r := cellsR nb 3 [.int .i64 0]) (r' := seqR q b' J.T) (by with_reducible repeat first | exact ph | apply pt) (by with_reducible repeat first | exact ph | apply pt)
      have BC := Lib.hid hn1.2
      have hnbl := hn1.2.lt
      have hSq : ¬ OneB nb q := fun h => hd nb ((hn1.1 nb).2 rfl) ((hF1 nb).2 (.inl (Eq.symm h)))
      have hSF : ∀ k, F' k → ¬ OneB nb k := fun k hk h => hd nb ((hn1.1 nb).2 rfl) ((hF1 nb).2 (.inr (by have h9 : k = nb := h; rw [← h9]; exact hk)))
      have HNB := Lib.hid hnbl
      refine wpIn_range_break rfl (by omega) (gf := 33) (lb := #[.pointer (some ⟨q, 0, none⟩)]) rfl trivial (enters_of Tryd.func33 (by kernel_rfl) rfl)
        (S := OneB nb) (iter_whole w13 q b' J.T hq2 hq3 hSq hSF HLN.out) (by rintro x v W0 W rfl; rfl)
        (fun k W => Keeps (OneB nb) w13 W ∧ Box W nb 3 [.int .i64 (k : Int)] ∧ (k : Int) < max 1 many)
        (fun k W => Keeps (OneB nb) w13 W ∧ Box W nb 3 [.int .i64 (k : Int)] ∧ (k : Int) = max 1 many) (fun k W h => h.1)
        (fun k W W' h hk => ⟨h.1.then hk (fun i hi h => by unfold OneB at h ⊢; omega), h.2.1.keeps hk (by unfold OneB; omega), h.2.2⟩)
        (fun k W W' h hk => by first | exact ⟨h.1.then hk (fun i hi h => by unfold OneB at h ⊢; omega), h.2.1.keeps hk (by unfold OneB; omega), h.2.2⟩ | exact h) ⟨Keeps.refl _ _, BC.out, by omega⟩ ?_ ?_
      all_goals clear hn1 hq2 hq3 hSq hSF hd hF1
      · skip
        rintro k hk v W0 W - hE0 ⟨hkW, hb0, hck⟩ hv hlt0 hlt
        have hk' : k < J.T.l.length := by rw [wholeL_len] at hk; exact hk
        rw [wholeL_get] at hv
        unfold HandsOn at hv
        dsimp only at hv
        obtain ⟨y, hy⟩ : ∃ y, (J.T.l[k]).e = y := ⟨_, rfl⟩
        rw [hy] at hv
        unfold En.v at hv
        subst hv
        have HYE := Lib.hid hy
        have HKW := Lib.hid hkW
        have HB0 := Lib.hid hb0
        have h7W := hkW.size
        have hlk := HLN.out
        clear hy hkW hb0 hE0
        gi_wp2_with fail
        refine ⟨(Keeps.refl _ _).alloc _, fun W2 hW2 => ?_⟩
        have e2 : Keeps (OneB nb) w13 W2 := (HKW.out.alloc _).then hW2 (fun i hi h => by unfold OneB at h; omega)
        have b0 := (HB0.out.alloc (Obj.cells #[.int .i64 y.kind, .int .i64 y.member, .int .i64 y.number, .string (bs y.text)] 35)).keeps hW2 (by unfold OneB; omega)
        have bx := (Box.new W 35 [.int .i64 y.kind, .int .i64 y.member, .int .i64 y.number, .string (bs y.text)]).keeps hW2 (by unfold OneB; omega)
        obtain ⟨A0, hA0, hS0⟩ := (HM.out.pick (r := cellsR nb 3 [.int .i64 0]) (by with_reducible repeat first | exact ph | apply pt)).step
        have HM9 := Lib.hid (hS0 (cellsR nb 3 [.int .i64 (k : Int)]) W2 ⟨A0, ⟨hA0.1, b0⟩, e2.mono (fun i _ h => (hA0.1 i).2 h), fun i h => .inl h⟩)
        clear HM
        have HM := HM9
        have HK2 := Lib.hid e2
        have HBX := Lib.hid bx
        clear HM9 hA0 hS0 b0 bx e2
        obtain ⟨Ahr, hr⟩ := HM.out.get (r := refR cs J) (by with_reducible repeat first | exact ph | apply pt)
        obtain ⟨al2, cl2, ap2, cp2, -, -, -, -, -, c3', -, -, -, -, hvl, -⟩ := hr.1.open
        rw [c3] at c3'
        obtain ⟨rfl, rfl⟩ : al = al2 ∧ cl = cl2 := by injection c3' with h; injection h with h1 h2 h3; exact ⟨h1, h3⟩
        obtain ⟨g2, o2, rfl, hg2, f0, f1, f2, f3⟩ := ln_x hvl k hk'
        rw [HYE.out] at f0 f1 f2 f3
        clear c3' hvl hr
        try clear Ahr
        have g0 : decide (J.T.l.length ≤ k) = false := by simp; omega
        have g1 : (k : Int) < (J.T.l.length : Int) := by omega
        have g2' : ¬ (k : Int) < 0 := by omega
        have g3 : (k : Int) < 4096 := by omega
        have hq1 : ∀ W, (binOp .neq 35 (.agg #[.int .i64 y.kind, .int .i64 y.member, .int .i64 y.number, .string (bs y.text)]) (.agg #[.int .i64 y.kind, .int .i64 y.member, .int .i64 y.number, .string (bs y.text)])).run Tryd.prog W = .ok (.bool false) W := fun W => by rw [ne_en, decide_eq_true rfl]; rfl
        have n1 : ¬ nb = W.heap.size := by omega
        have n2 : ¬ W.heap.size = nb := by omega
        have fM := HM.out.facts
        simp only [seeS, talkR_tag, rowR_tag, enR_tag, judgeR_tag, refR_tag, seqR_tag, sepR_tag, markR_tag] at fM
        obtain ⟨cHBX, zHBX⟩ := HBX.out.reads
        have lHBX := HBX.out.lt
        gi_wp2_with fail
        have hE0 : Keeps NoB W2 W2.drew := (Keeps.refl _ _).drew
        refine wpIn_region_plan [(3, 0), (0, 1), (0, 2), (3, 3), (0, 4), (0, 5), (0, 6), (0, 7), (3, 8), (0, 9), (0, 10), (0, 11), (3, 12), (0, 13), (0, 14), (3, 15), (3, 16), (0, 17), (0, 18), (3, 19), (0, 20), (0, 21)] [] [] [] (ClsE W2) (by kernel_rfl) (by rintro ⟨_, _, h⟩; exact h) (by kernel_rfl) (by kernel_rfl) (by kernel_rfl) rfl rfl (ClsE.of hE0) (fun _ _ _ d _ h => by cases d <;> exact h) ?_; simp only [planL, List.getElem?_toArray, List.getElem?_cons_succ, List.getElem?_cons_zero]
        refine plan_exact rfl (fun K hK => quiet_runX (v := ?_) ?_ (hK _ ?_)); rotate_left; (go_simp <;> with_reducible rfl); clear hK K; simp only [nP]
        refine plan_pure rfl (fun K hK => quiet_run (v := ?_) (fun W _ => ?_) (hK _ ?_)); rotate_left; (go_simp <;> with_reducible rfl); clear hK K; simp only [nP]
        refine plan_pure rfl (fun K hK => quiet_run (v := ?_) (fun W _ => ?_) (hK _ ?_)); rotate_left; (go_simp <;> with_reducible rfl); clear hK K; simp only [nP]
        refine plan_exact rfl (fun K hK => quiet_runX (v := ?_) ?_ (hK _ ?_)); rotate_left; (go_simp <;> with_reducible rfl); clear hK K; simp only [nP]
        refine plan_pure rfl (fun K hK => quiet_run (v := ?_) (fun W _ => ?_) (hK _ ?_)); rotate_left; (go_simp <;> with_reducible rfl); clear hK K; simp only [nP]
        refine plan_pure rfl (fun K hK => quiet_run (v := ?_) (fun W _ => ?_) (hK _ ?_)); rotate_left; (go_simp <;> with_reducible rfl); clear hK K; simp only [nP]
        refine plan_pure rfl (fun K hK => quiet_move' _ rfl (hK _ ?_)); clear hK K; simp only [nP, nE]
        first
        | (refine plan_skip rfl ?_; simp only [nP])
        | (refine plan_pure rfl (fun K hK => quiet_move' _ rfl (hK _ ?_)); clear hK K; simp only [nP, nE])
        first
        | (refine plan_skip rfl ?_; simp only [nP])
        | (refine plan_exact rfl (fun K hK => quiet_runX (v := ?_) ?_ (hK _ ?_)); rotate_left; (go_simp <;> with_reducible rfl); clear hK K; simp only [nP])
        first
        | (refine plan_skip rfl ?_; simp only [nP])
        | (refine plan_pure rfl (fun K hK => quiet_run (v := ?_) (fun W _ => ?_) (hK _ ?_)); rotate_left; (go_simp <;> with_reducible rfl); clear hK K; simp only [nP])
        refine plan_pure rfl (fun K hK => quiet_run (v := ?_) (fun W _ => ?_) (hK _ ?_)); rotate_left; (go_simp <;> with_reducible rfl); clear hK K; simp only [nP]
        refine plan_pure rfl (fun K hK => quiet_move' _ rfl (hK _ ?_)); clear hK K; simp only [nP, nE]
        first
        | (refine plan_skip rfl ?_; simp only [nP])
        | (refine plan_exact rfl (fun K hK => quiet_runX (v := ?_) ?_ (hK _ ?_)); rotate_left; (go_simp <;> with_reducible rfl); clear hK K; simp only [nP])
        first
        | (refine plan_skip rfl ?_; simp only [nP])
        | (refine plan_pure rfl (fun K hK => quiet_run (v := ?_) (fun W _ => ?_) (hK _ ?_)); rotate_left; (go_simp <;> with_reducible rfl); clear hK K; simp only [nP])
        first
        | (refine plan_skip rfl ?_; simp only [nP])
        | (refine plan_pure rfl (fun K hK => quiet_run (v := ?_) (fun W _ => ?_) (hK _ ?_)); rotate_left; (go_simp <;> with_reducible rfl); clear hK K; simp only [nP])
        first
        | (refine plan_skip rfl ?_; simp only [nP])
        | (refine plan_exact rfl (fun K hK => quiet_runX (v := ?_) ?_ (hK _ ?_)); rotate_left; (go_simp <;> with_reducible rfl); clear hK K; simp only [nP])
        first
        | (refine plan_skip rfl ?_; simp only [nP])
        | (refine plan_exact rfl (fun K hK => quiet_runX (v := ?_) ?_ (hK _ ?_)); rotate_left; (go_simp <;> with_reducible rfl); clear hK K; simp only [nP])
        first
        | (refine plan_skip rfl ?_; simp only [nP])
        | (refine plan_pure rfl (fun K hK => quiet_run (v := ?_) (fun W _ => ?_) (hK _ ?_)); rotate_left; (go_simp <;> with_reducible rfl); clear hK K; simp only [nP])
        first
        | (refine plan_skip rfl ?_; simp only [nP])
        | (refine plan_pure rfl (fun K hK => quiet_run (v := ?_) (fun W _ => ?_) (hK _ ?_)); rotate_left; (go_simp <;> with_reducible rfl); clear hK K; simp only [nP])
        first
        | (refine plan_skip rfl ?_; simp only [nP])
        | (refine plan_exact rfl (fun K hK => quiet_runX (v := ?_) ?_ (hK _ ?_)); rotate_left; (go_simp <;> with_reducible rfl); clear hK K; simp only [nP])
        first
        | (refine plan_skip rfl ?_; simp only [nP])
        | (refine plan_pure rfl (fun K hK => quiet_run (v := ?_) (fun W _ => ?_) (hK _ ?_)); rotate_left; (go_simp <;> with_reducible rfl); clear hK K; simp only [nP])
        refine plan_pure rfl (fun K hK => quiet_run (v := ?_) (fun W _ => ?_) (hK _ ?_)); rotate_left; (go_simp <;> with_reducible rfl); clear hK K; simp only [nP]
        refine plan_nil ?_; simp only [tailL, List.filterMap_nil]
        go_wp2_with fail
        obtain ⟨Ahcn, hcn⟩ := HM.out.get (r := cellsR nb 3 [.int .i64 (k : Int)]) (by with_reducible repeat first | exact ph | apply pt)
        have HCN := Lib.hid hcn.2
        have HNL := Lib.hid (show nb < W2.heap.size from hcn.2.lt)
        clear hcn hE0
        try clear Ahcn
        by_cases hbr : many ≤ (k : Int) + 1
        · gi_wp2_with fail
          refine ⟨?_, rfl, ?_, ?_, ?_⟩
          · skip
            repeat (first | exact Keeps.refl _ _ | exact HK2.out | refine Keeps.drew ?_ | refine Keeps.setCell ?_ _ _ (.inl (.inl ⟨HNB.out, rfl⟩)) | refine Keeps.setCell ?_ _ _ (.inl rfl))
          · skip
            repeat (first | exact Keeps.refl _ _ | exact HK2.out | refine Keeps.drew ?_ | refine Keeps.setCell ?_ _ _ (.inl (.inl ⟨HNB.out, rfl⟩)) | refine Keeps.setCell ?_ _ _ (.inl rfl))
          · skip
            have := (HCN.out.set 0 (.int .i64 ((k : Int) + 1))).drew
            simpa using this
          · omega
        · gi_wp2_with fail
          refine ⟨?_, ?_, ?_, ?_⟩
          · skip
            repeat (first | exact Keeps.refl _ _ | exact HK2.out | refine Keeps.drew ?_ | refine Keeps.setCell ?_ _ _ (.inl (.inl ⟨HNB.out, rfl⟩)) | refine Keeps.setCell ?_ _ _ (.inl rfl))
          · skip
            repeat (first | exact Keeps.refl _ _ | exact HK2.out | refine Keeps.drew ?_ | refine Keeps.setCell ?_ _ _ (.inl (.inl ⟨HNB.out, rfl⟩)) | refine Keeps.setCell ?_ _ _ (.inl rfl))
          · skip
            have := (HCN.out.set 0 (.int .i64 ((k : Int) + 1))).drew
            simpa using this
          · omega
      · intro W hW hm
        obtain ⟨N0, hkW, hb0, hN0⟩ : ∃ N0 : Nat, Keeps (OneB nb) w13 W ∧ Box W nb 3 [.int .i64 (N0 : Int)] ∧ (N0 : Int) = min (J.T.l.length : Int) (max 1 many) := by
          rcases hW with ⟨h1, h2, h3⟩ | ⟨k, hk, h1, h2, h3⟩
          · rw [wholeL_len] at h2 h3; exact ⟨_, h1, h2, by omega⟩
          · rw [wholeL_len] at hk; exact ⟨_, h1, h2, by omega⟩
        obtain ⟨MM, hM⟩ : ∃ MM, max 1 many = MM := ⟨_, rfl⟩
        rw [hM] at hN0
        have hmx : (if many > 1 then many else 1) = MM := by rw [← hM]; split <;> omega
        have hmn : (if MM < (J.T.l.length : Int) then MM else (J.T.l.length : Int)) = (N0 : Int) := by rw [hN0]; split <;> omega
        obtain ⟨A0, hA0, hS0⟩ := (HM.out.pick (r := cellsR nb 3 [.int .i64 0]) (by with_reducible repeat first | exact ph | apply pt)).step
        have HM9 := Lib.hid (hS0 (sepR [cellsR nb 3 [.int .i64 (N0 : Int)], markR w13.heap.size]) W (upd_mark (hA0.1) hb0 hm hkW (HNB.out))).openSep2
        clear HM
        have HM := HM9
        clear HM9 hA0 hS0 hkW hb0 hW hm hN0 hM
        clear A0
        have fM := HM.out.facts
        simp only [seeS, talkR_tag, rowR_tag, enR_tag, judgeR_tag, refR_tag, seqR_tag, sepR_tag, markR_tag] at fM
        go_wp2_with fail
        all_goals clear fM
        rw [rounds_succ]
        have hsn := fun w => seq_nil2 w (some ⟨q, 0, none⟩)
        have fM := HM.out.facts
        simp only [seeS, talkR_tag, rowR_tag, enR_tag, judgeR_tag, refR_tag, seqR_tag, sepR_tag, markR_tag] at fM
        go_wp2_with fail
        all_goals clear fM
        clear hsn
        first | apply Mem.call | apply Mem.postD | apply Mem.stop | apply Mem.toUpd | apply Mem.list | apply Mem.code | apply Mem.post | apply Mem.postM
        · with_reducible repeat first | exact HM.out | exact ph | apply pt | apply Mem.drew | apply Mem.alloc | apply Mem.set | apply Mem.allocO | (simp only [World.size_alloc, World.size_setCell, World.size_drew]; rfl) | rfl
        intro w16 M
        try simp only [List.set_cons_zero, List.set_cons_succ] at M
        replace HM := Lib.hid M
        clear M
        obtain ⟨nb1, hnb1⟩ : ∃ nb1, nb = nb1 := ⟨_, rfl⟩
        clear HNB BC
        obtain ⟨nb, hnb⟩ : ∃ nb, W.heap.size + 1 = nb := ⟨_, rfl⟩
        rw [hnb] at HM
        rw [hnb]
        clear hnb
        clear hnb1 nb1
        refine (wpIn_wide (n := 9)).1 ?_
        obtain ⟨A1, A2, hn1, ⟨F', hF1, hq2, hq3⟩, hd⟩ := HM.out.apart (r := cellsR nb 3 [.int .i64 0]) (r' := seqR q b' J.T) (by with_reducible repeat first | exact ph | apply pt) (by with_reducible repeat first | exact ph | apply pt)
        have BC := Lib.hid hn1.2
        have hnbl := hn1.2.lt
        have hSq : ¬ OneB nb q := fun h => hd nb ((hn1.1 nb).2 rfl) ((hF1 nb).2 (.inl (Eq.symm h)))
        have hSF : ∀ k, F' k → ¬ OneB nb k := fun k hk h => hd nb ((hn1.1 nb).2 rfl) ((hF1 nb).2 (.inr (by have h9 : k = nb := h; rw [← h9]; exact hk)))
        have HNB := Lib.hid hnbl
        refine wpIn_range_break rfl (by omega) (gf := 33) (lb := #[.pointer (some ⟨q, 0, none⟩)]) rfl trivial (enters_of Tryd.func33 (by kernel_rfl) rfl)
          (S := OneB nb) (iter_whole w16 q b' J.T hq2 hq3 hSq hSF HLN.out) (by rintro x v W0 W rfl; rfl)
          (fun k W => Keeps (OneB nb) w16 W ∧ Box W nb 3 [.int .i64 (k : Int)])
          (fun k W => False) (fun k W h => h.1)
          (fun k W W' h hk => ⟨h.1.then hk (fun i hi h => by unfold OneB at h ⊢; omega), h.2.keeps hk (by unfold OneB; omega)⟩)
          (fun k W W' h hk => by first | exact ⟨h.1.then hk (fun i hi h => by unfold OneB at h ⊢; omega), h.2.keeps hk (by unfold OneB; omega)⟩ | exact h) ⟨Keeps.refl _ _, BC.out⟩ ?_ ?_
        all_goals clear hn1 hq2 hq3 hSq hSF hd hF1
        · skip
          rintro k hk v W0 W - hE0 ⟨hkW, hb0⟩ hv hlt0 hlt
          have hk' : k < J.T.l.length := by rw [wholeL_len] at hk; exact hk
          rw [wholeL_get] at hv
          unfold HandsOn at hv
          dsimp only at hv
          obtain ⟨y, hy⟩ : ∃ y, (J.T.l[k]).e = y := ⟨_, rfl⟩
          rw [hy] at hv
          unfold En.v at hv
          subst hv
          have HYE := Lib.hid hy
          have HKW := Lib.hid hkW
          have HB0 := Lib.hid hb0
          have h7W := hkW.size
          have hlk := HLN.out
          clear hy hkW hb0 hE0
          gi_wp2_with fail
          refine ⟨(Keeps.refl _ _).alloc _, fun W2 hW2 => ?_⟩
          have e2 : Keeps (OneB nb) w16 W2 := (HKW.out.alloc _).then hW2 (fun i hi h => by unfold OneB at h; omega)
          have b0 := (HB0.out.alloc (Obj.cells #[.int .i64 y.kind, .int .i64 y.member, .int .i64 y.number, .string (bs y.text)] 35)).keeps hW2 (by unfold OneB; omega)
          have bx := (Box.new W 35 [.int .i64 y.kind, .int .i64 y.member, .int .i64 y.number, .string (bs y.text)]).keeps hW2 (by unfold OneB; omega)
          obtain ⟨A0, hA0, hS0⟩ := (HM.out.pick (r := cellsR nb 3 [.int .i64 0]) (by with_reducible repeat first | exact ph | apply pt)).step
          have HM9 := Lib.hid (hS0 (cellsR nb 3 [.int .i64 (k : Int)]) W2 ⟨A0, ⟨hA0.1, b0⟩, e2.mono (fun i _ h => (hA0.1 i).2 h), fun i h => .inl h⟩)
          clear HM
          have HM := HM9
          have HK2 := Lib.hid e2
          have HBX := Lib.hid bx
          clear HM9 hA0 hS0 b0 bx e2
          obtain ⟨Ahr, hr⟩ := HM.out.get (r := refR cs J) (by with_reducible repeat first | exact ph | apply pt)
          obtain ⟨al2, cl2, ap2, cp2, -, -, -, -, -, c3', -, -, -, -, hvl, -⟩ := hr.1.open
          rw [c3] at c3'
          obtain ⟨rfl, rfl⟩ : al = al2 ∧ cl = cl2 := by injection c3' with h; injection h with h1 h2 h3; exact ⟨h1, h3⟩
          obtain ⟨g2, o2, rfl, hg2, f0, f1, f2, f3⟩ := ln_x hvl k hk'
          rw [HYE.out] at f0 f1 f2 f3
          clear c3' hvl hr
          try clear Ahr
          have g0 : decide (J.T.l.length ≤ k) = false := by simp; omega
          have g1 : (k : Int) < (J.T.l.length : Int) := by omega
          have g2' : ¬ (k : Int) < 0 := by omega
          have g3 : (k : Int) < 4096 := by omega
          have hq1 : ∀ W, (binOp .neq 35 (.agg #[.int .i64 y.kind, .int .i64 y.member, .int .i64 y.number, .string (bs y.text)]) (.agg #[.int .i64 y.kind, .int .i64 y.member, .int .i64 y.number, .string (bs y.text)])).run Tryd.prog W = .ok (.bool false) W := fun W => by rw [ne_en, decide_eq_true rfl]; rfl
          have n1 : ¬ nb = W.heap.size := by omega
          have n2 : ¬ W.heap.size = nb := by omega
          have fM := HM.out.facts
          simp only [seeS, talkR_tag, rowR_tag, enR_tag, judgeR_tag, refR_tag, seqR_tag, sepR_tag, markR_tag] at fM
          obtain ⟨cHBX, zHBX⟩ := HBX.out.reads
          have lHBX := HBX.out.lt
          gi_wp2_with fail
          have hE0 : Keeps NoB W2 W2.drew := (Keeps.refl _ _).drew
          refine wpIn_region_plan [(3, 0), (0, 1), (0, 2), (3, 3), (0, 4), (0, 5), (0, 6), (0, 7), (3, 8), (0, 9), (0, 10), (0, 11), (3, 12), (0, 13), (0, 14), (3, 15), (3, 16), (0, 17), (0, 18), (3, 19), (0, 20), (0, 21)] [] [] [] (ClsE W2) (by kernel_rfl) (by rintro ⟨_, _, h⟩; exact h) (by kernel_rfl) (by kernel_rfl) (by kernel_rfl) rfl rfl (ClsE.of hE0) (fun _ _ _ d _ h => by cases d <;> exact h) ?_; simp only [planL, List.getElem?_toArray, List.getElem?_cons_succ, List.getElem?_cons_zero]
          refine plan_exact rfl (fun K hK => quiet_runX (v := ?_) ?_ (hK _ ?_)); rotate_left; (go_simp <;> with_reducible rfl); clear hK K; simp only [nP]
          refine plan_pure rfl (fun K hK => quiet_run (v := ?_) (fun W _ => ?_) (hK _ ?_)); rotate_left; (go_simp <;> with_reducible rfl); clear hK K; simp only [nP]
          refine plan_pure rfl (fun K hK => quiet_run (v := ?_) (fun W _ => ?_) (hK _ ?_)); rotate_left; (go_simp <;> with_reducible rfl); clear hK K; simp only [nP]
          refine plan_exact rfl (fun K hK => quiet_runX (v := ?_) ?_ (hK _ ?_)); rotate_left; (go_simp <;> with_reducible rfl); clear hK K; simp only [nP]
          refine plan_pure rfl (fun K hK => quiet_run (v := ?_) (fun W _ => ?_) (hK _ ?_)); rotate_left; (go_simp <;> with_reducible rfl); clear hK K; simp only [nP]
          refine plan_pure rfl (fun K hK => quiet_run (v := ?_) (fun W _ => ?_) (hK _ ?_)); rotate_left; (go_simp <;> with_reducible rfl); clear hK K; simp only [nP]
          refine plan_pure rfl (fun K hK => quiet_move' _ rfl (hK _ ?_)); clear hK K; simp only [nP, nE]
          first
          | (refine plan_skip rfl ?_; simp only [nP])
          | (refine plan_pure rfl (fun K hK => quiet_move' _ rfl (hK _ ?_)); clear hK K; simp only [nP, nE])
          first
          | (refine plan_skip rfl ?_; simp only [nP])
          | (refine plan_exact rfl (fun K hK => quiet_runX (v := ?_) ?_ (hK _ ?_)); rotate_left; (go_simp <;> with_reducible rfl); clear hK K; simp only [nP])
          first
          | (refine plan_skip rfl ?_; simp only [nP])
          | (refine plan_pure rfl (fun K hK => quiet_run (v := ?_) (fun W _ => ?_) (hK _ ?_)); rotate_left; (go_simp <;> with_reducible rfl); clear hK K; simp only [nP])
          refine plan_pure rfl (fun K hK => quiet_run (v := ?_) (fun W _ => ?_) (hK _ ?_)); rotate_left; (go_simp <;> with_reducible rfl); clear hK K; simp only [nP]
          refine plan_pure rfl (fun K hK => quiet_move' _ rfl (hK _ ?_)); clear hK K; simp only [nP, nE]
          first
          | (refine plan_skip rfl ?_; simp only [nP])
          | (refine plan_exact rfl (fun K hK => quiet_runX (v := ?_) ?_ (hK _ ?_)); rotate_left; (go_simp <;> with_reducible rfl); clear hK K; simp only [nP])
          first
          | (refine plan_skip rfl ?_; simp only [nP])
          | (refine plan_pure rfl (fun K hK => quiet_run (v := ?_) (fun W _ => ?_) (hK _ ?_)); rotate_left; (go_simp <;> with_reducible rfl); clear hK K; simp only [nP])
          first
          | (refine plan_skip rfl ?_; simp only [nP])
          | (refine plan_pure rfl (fun K hK => quiet_run (v := ?_) (fun W _ => ?_) (hK _ ?_)); rotate_left; (go_simp <;> with_reducible rfl); clear hK K; simp only [nP])
          first
          | (refine plan_skip rfl ?_; simp only [nP])
          | (refine plan_exact rfl (fun K hK => quiet_runX (v := ?_) ?_ (hK _ ?_)); rotate_left; (go_simp <;> with_reducible rfl); clear hK K; simp only [nP])
          first
          | (refine plan_skip rfl ?_; simp only [nP])
          | (refine plan_exact rfl (fun K hK => quiet_runX (v := ?_) ?_ (hK _ ?_)); rotate_left; (go_simp <;> with_reducible rfl); clear hK K; simp only [nP])
          first
          | (refine plan_skip rfl ?_; simp only [nP])
          | (refine plan_pure rfl (fun K hK => quiet_run (v := ?_) (fun W _ => ?_) (hK _ ?_)); rotate_left; (go_simp <;> with_reducible rfl); clear hK K; simp only [nP])
          first
          | (refine plan_skip rfl ?_; simp only [nP])
          | (refine plan_pure rfl (fun K hK => quiet_run (v := ?_) (fun W _ => ?_) (hK _ ?_)); rotate_left; (go_simp <;> with_reducible rfl); clear hK K; simp only [nP])
          first
          | (refine plan_skip rfl ?_; simp only [nP])
          | (refine plan_exact rfl (fun K hK => quiet_runX (v := ?_) ?_ (hK _ ?_)); rotate_left; (go_simp <;> with_reducible rfl); clear hK K; simp only [nP])
          first
          | (refine plan_skip rfl ?_; simp only [nP])
          | (refine plan_pure rfl (fun K hK => quiet_run (v := ?_) (fun W _ => ?_) (hK _ ?_)); rotate_left; (go_simp <;> with_reducible rfl); clear hK K; simp only [nP])
          refine plan_pure rfl (fun K hK => quiet_run (v := ?_) (fun W _ => ?_) (hK _ ?_)); rotate_left; (go_simp <;> with_reducible rfl); clear hK K; simp only [nP]
          refine plan_nil ?_; simp only [tailL, List.filterMap_nil]
          go_wp2_with fail
          obtain ⟨Ahcn, hcn⟩ := HM.out.get (r := cellsR nb 3 [.int .i64 (k : Int)]) (by with_reducible repeat first | exact ph | apply pt)
          have HCN := Lib.hid hcn.2
          have HNL := Lib.hid (show nb < W2.heap.size from hcn.2.lt)
          clear hcn hE0
          try clear Ahcn
          gi_wp2_with fail
          refine ⟨?_, ?_, ?_⟩
          · skip
            repeat (first | exact Keeps.refl _ _ | exact HK2.out | refine Keeps.drew ?_ | refine Keeps.setCell ?_ _ _ (.inl (.inl ⟨HNB.out, rfl⟩)) | refine Keeps.setCell ?_ _ _ (.inl rfl))
          · skip
            repeat (first | exact Keeps.refl _ _ | exact HK2.out | refine Keeps.drew ?_ | refine Keeps.setCell ?_ _ _ (.inl (.inl ⟨HNB.out, rfl⟩)) | refine Keeps.setCell ?_ _ _ (.inl rfl))
          · skip
            have := (HCN.out.set 0 (.int .i64 ((k : Int) + 1))).drew
            simpa using this
        · intro V hV hm
          obtain ⟨hkW, hb0⟩ : Keeps (OneB nb) w16 V ∧ Box V nb 3 [.int .i64 (J.T.l.length : Int)] := by
            rcases hV with h | ⟨k, hk, h⟩
            · rw [wholeL_len] at h; exact h
            · exact h.elim
          obtain ⟨A0, hA0, hS0⟩ := (HM.out.pick (r := cellsR nb 3 [.int .i64 0]) (by with_reducible repeat first | exact ph | apply pt)).step
          have HM9 := Lib.hid (hS0 (sepR [cellsR nb 3 [.int .i64 (J.T.l.length : Int)], markR w16.heap.size]) V (upd_mark (hA0.1) hb0 hm hkW (HNB.out))).openSep2
          clear HM
          have HM := HM9
          clear HM9 hA0 hS0 hkW hb0 hV hm
          clear A0
          have fM := HM.out.facts
          simp only [seeS, talkR_tag, rowR_tag, enR_tag, judgeR_tag, refR_tag, seqR_tag, sepR_tag, markR_tag] at fM
          go_wp2_with fail
          all_goals clear fM
          rw [rounds_succ]
          have fM := HM.out.facts
          simp only [seeS, talkR_tag, rowR_tag, enR_tag, judgeR_tag, refR_tag, seqR_tag, sepR_tag, markR_tag] at fM
          go_wp2_with fail
          all_goals clear fM
          first | apply Mem.call | apply Mem.postD | apply Mem.stop | apply Mem.toUpd | apply Mem.list | apply Mem.code | apply Mem.post | apply Mem.postM
          · with_reducible repeat first | exact HM.out | exact ph | apply pt | apply Mem.drew | apply Mem.alloc | apply Mem.set | apply Mem.allocO | (simp only [World.size_alloc, World.size_setCell, World.size_drew]; rfl) | rfl
          intro w20 M
          try simp only [List.set_cons_zero, List.set_cons_succ] at M
          replace HM := Lib.hid M
          clear M
          refine (num_any _ _).mono ?_
          rintro r wq ⟨rfl, hwq⟩
          rw [hwq]
          clear hwq wq
          have fM := HM.out.facts
          simp only [seeS, talkR_tag, rowR_tag, enR_tag, judgeR_tag, refR_tag, seqR_tag, sepR_tag, markR_tag] at fM
          go_wp2_with fail
          all_goals clear fM
          refine (works_any _).mono ?_
          rintro r w21 ⟨rfl, hE⟩
          replace HM := Lib.hid (HM.out.ext hE)
          clear hE
          have fM := HM.out.facts
          simp only [seeS, talkR_tag, rowR_tag, enR_tag, judgeR_tag, refR_tag, seqR_tag, sepR_tag, markR_tag] at fM
          go_wp2_with fail
          all_goals clear fM
          first | apply Mem.call | apply Mem.postD | apply Mem.stop | apply Mem.toUpd | apply Mem.list | apply Mem.code | apply Mem.post | apply Mem.postM
          · with_reducible repeat first | exact HM.out | exact ph | apply pt | apply Mem.drew | apply Mem.alloc | apply Mem.set | apply Mem.allocO | (simp only [World.size_alloc, World.size_setCell, World.size_drew]; rfl) | rfl
          intro w22 M
          try simp only [List.set_cons_zero, List.set_cons_succ] at M
          replace HM := Lib.hid M
          clear M
          obtain ⟨B1, B2, q1, q2, q3⟩ := HM.out.apart (r := cellsR (w.heap.size + 1 + 1) 4 [.bool true]) (r' := markR w16.heap.size) (by with_reducible repeat first | exact ph | apply pt) (by with_reducible repeat first | exact ph | apply pt)
          obtain ⟨B3, B4, q4, q5, q6⟩ := HM.out.apart (r := cellsR (w.heap.size + 1 + 1) 4 [.bool true]) (r' := markR w13.heap.size) (by with_reducible repeat first | exact ph | apply pt) (by with_reducible repeat first | exact ph | apply pt)
          obtain ⟨B5, B6, q7, q8, q9⟩ := HM.out.apart (r := markR w16.heap.size) (r' := markR w13.heap.size) (by with_reducible repeat first | exact ph | apply pt) (by with_reducible repeat first | exact ph | apply pt)
          obtain ⟨B7, q10⟩ := HM.out.get (r := markR w13.heap.size) (by with_reducible repeat first | exact ph | apply pt)
          have d1 : w.heap.size + 1 + 1 ≠ w16.heap.size := fun h => q3 _ ((q1.1 _).2 rfl) ((q2.1 _).2 h)
          have d2 : w.heap.size + 1 + 1 ≠ w13.heap.size := fun h => q6 _ ((q4.1 _).2 rfl) ((q5.1 _).2 h)
          have d3 : w16.heap.size ≠ w13.heap.size := fun h => q9 _ ((q7.1 _).2 rfl) ((q8.1 _).2 h)
          refine leaves_marks [w16.heap.size, w13.heap.size] _ (by simp; omega) ?_ ?_
          · intro D hD
            simp only [List.mem_cons, List.not_mem_nil, or_false] at hD
            rcases hD with rfl | rfl
            · exact q2.2
            · exact q10.2
          · intro w' hk
            have q0 := (q1.2.keeps hk (by simp; omega)).reads.1
            obtain ⟨G1, g1, -, g2⟩ := (HM.out.pick (r := markR w13.heap.size) (by with_reducible repeat first | exact ph | apply pt)).upd
            obtain ⟨G3, g3, -, g4⟩ := (HM.out.pick (r := markR w16.heap.size) (by with_reducible repeat first | exact ph | apply pt)).upd
            have e1 : w.heap.size ≤ w13.heap.size := (g2 _ ((g1.1 _).2 rfl)).resolve_left (noB _)
            have e2 : w.heap.size ≤ w16.heap.size := (g4 _ ((g3.1 _).2 rfl)).resolve_left (noB _)
            refine ⟨.bool true, by simp [results, Tryd.results4, go_sem, q0], rfl, ?_⟩
            refine HM.out.extTo.then hk fun i hi h => ?_
            simp only [List.mem_cons, List.not_mem_nil, or_false] at h
            exact absurd hi (by rcases h with h | h <;> omega)
theorem leaves_walk {A : Nat → Prop} (w : World) (v : Value) (many : Int) (l : List Sn) (x : Sn) (h : Sns w A v l) (hl : l.length ≤ 9223372036854775807) (hA : ∀ k, A k → k < w.heap.size) (hx : OkS x) (hT : Tabs w) :
    Calls Tryd.prog 4 #[v, .int .i64 many, x.v] w fun e w' => e = .returned (.bool true) ∧ Ext w w' := by
  cases hf : fewB l 40 with
  | false => exact leaves_few w v many l x h hl hA hx hT hf
  | true => cases hf2 : fewB [x] 1 with
    | false => exact leaves_few2 w v many l x h hl hA hx hT hf hf2
    | true => exact leaves_in w v many l x h hl hA hx hT hf hf2
end Go.Proofs.YthhdgjofagdjeaaDoor
end
section
/- Things seen as arguments, opened. No condition. -/
set_option linter.unusedVariables false
set_option linter.unusedSimpArgs false
set_option maxRecDepth 100000
namespace Go.Proofs.YthhdgjofagdjeaaDoor
open Go.RowKit Go.ChangeShapes Go.WideShapes
theorem cellsI : Tryd.prog.cellsOf 3 = 1 := by kernel_rfl
theorem cellsI64 : Tryd.prog.cellsOf 2 = 1 := by kernel_rfl
theorem cellsS : Tryd.prog.cellsOf 9 = 1 := by kernel_rfl
theorem cellsEK : Tryd.prog.cellsOf 33 = 1 := by kernel_rfl
theorem cellsSK : Tryd.prog.cellsOf 32 = 1 := by kernel_rfl
theorem cellsEn : Tryd.prog.cellsOf 35 = 4 := by kernel_rfl
theorem cellsSn : Tryd.prog.cellsOf 37 = 7 := by kernel_rfl
theorem list4 {cs : List Value} (h : cs.length = 4) : ∃ a b c d, cs = [a, b, c, d] := by
  match cs, h with
  | [a, b, c, d], _ => exact ⟨a, b, c, d, rfl⟩
theorem list7 {cs : List Value} (h : cs.length = 7) : ∃ a b c d e f g, cs = [a, b, c, d, e, f, g] := by
  match cs, h with
  | [a, b, c, d, e, f, g], _ => exact ⟨a, b, c, d, e, f, g, rfl⟩
section
variable {H : Type} {enc : TypeId × Value → H} {w : World}
theorem rd_en : Rd enc Tryd.prog w 35 fun cs (e : En) => cs = e.cells ∧ OkE e := fun fuel cs x h => by
  obtain ⟨hl, hf⟩ := rd_field Tryd.underlying35 h
  rw [cellsEn] at hl
  obtain ⟨c0, c1, c2, c3, rfl⟩ := list4 hl
  obtain ⟨k0, h0, g0⟩ := hf 0 _ 0 1 rfl rfl cellsEK (rd_int Tryd.underlying33)
  obtain ⟨k1, h1, g1⟩ := hf 1 _ 1 1 rfl rfl cellsI (rd_int Tryd.underlying3)
  obtain ⟨k2, h2, g2⟩ := hf 2 _ 2 1 rfl rfl cellsI64 (rd_int Tryd.underlying2)
  obtain ⟨l, h3, g3⟩ := hf 3 _ 3 1 rfl rfl cellsS (rd_string Tryd.underlying9)
  simp at h0 h1 h2 h3
  exact ⟨⟨k0, k1, k2, l⟩, by rw [h0, h1, h2, h3]; rfl, i64_of g0, i64_of g1, i64_of g2, g3⟩
theorem rd_sn : Rd enc Tryd.prog w 37 fun cs (x : Sn) => SnEn cs x := fun fuel cs x h => by
  obtain ⟨hl, hf⟩ := rd_field Tryd.underlying37 h
  rw [cellsSn] at hl
  obtain ⟨c0, c1, c2, c3, c4, c5, c6, rfl⟩ := list7 hl
  obtain ⟨k0, h0, g0⟩ := hf 0 _ 0 1 rfl rfl cellsSK (rd_int Tryd.underlying32)
  obtain ⟨k1, h1, g1⟩ := hf 1 _ 1 1 rfl rfl cellsI (rd_int Tryd.underlying3)
  obtain ⟨k2, h2, g2⟩ := hf 2 _ 2 1 rfl rfl cellsI64 (rd_int Tryd.underlying2)
  obtain ⟨e, h3, g3⟩ := hf 3 _ 3 4 rfl rfl cellsEn rd_en
  simp [En.cells] at h0 h1 h2 h3
  obtain ⟨h3, h4, h5, h6⟩ := h3
  exact ⟨⟨k0, k1, k2, e⟩, by rw [h0, h1, h2, h3, h4, h5, h6]; rfl, i64_of g0, g3⟩
theorem open_sns {v : Value} {d : DataW H} {p : List MemPlace} {b : Nat} (hv : Value.okWide Tryd.prog w .any b 31 v) (h : DataW.Trod enc Tryd.prog w 0 (fun _ => true) true 31 v d p) :
    ∃ l : List Sn, Sns w (Old w) v l ∧ l.length ≤ 9223372036854775807 := by
  obtain ⟨fuel, hf⟩ := h
  obtain ⟨l, v', h1, h2, h3⟩ := rd_slice 7 Tryd.underlying31 cellsSn (by decide) rd_sn fuel _ _ hf
  rw [ok_slice Tryd.underlying31 hv] at h1
  obtain rfl : v = v' := by simpa using h1
  exact ⟨l, h2, h3⟩
theorem open_sn {v : Value} {d : DataW H} {p : List MemPlace} {b : Nat} (hv : Value.okWide Tryd.prog w .any b 37 v) (h : DataW.Trod enc Tryd.prog w 0 (fun _ => true) true 37 v d p) :
    ∃ x : Sn, v = x.v ∧ OkS x := by
  obtain ⟨fuel, hf⟩ := h
  obtain ⟨x, h1, h2⟩ := rd_sn fuel _ _ hf
  obtain ⟨cs, rfl, -⟩ := okWide_struct Tryd.underlying37 hv
  refine ⟨x, ?_, h2⟩
  have h5 : cs.toList = x.cells := h1
  obtain ⟨l⟩ := cs
  simp only at h5
  rw [h5]
  rfl
end
end Go.Proofs.YthhdgjofagdjeaaDoor
end
