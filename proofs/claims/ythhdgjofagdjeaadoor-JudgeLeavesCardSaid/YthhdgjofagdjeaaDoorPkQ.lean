/- Texts VI, WA, one behind the other. Conditions: as each says. -/
import Derived.Test.YthhdgjofagdjeaaDoorPkP
import Derived.BigFrameIn
import Derived.BigGuardIn
section
/- The document's judge sees a thing, of whatever kind; New. Condition: the judge reads as 'RefAt' says, and is such as came by things seen. -/
set_option linter.unusedVariables false
set_option linter.unusedSimpArgs false
set_option maxHeartbeats 4000000
set_option maxRecDepth 100000
namespace Go.Proofs.YthhdgjofagdjeaaDoor
open Go.RowKit Go.Shelf
theorem RefAt.setPut {w : World} {A : Nat → Prop} {J : JA} {cs : List Value} (h : RefAt w A J cs) (v : Value) (l : List En) (hv : RowAt enE w 0 v l) (hA : ∀ k, Own v k → A k) : RefAt w A { J with put := l } (cs.set 29 v) :=
  let ⟨vl, vp, h1, h2, h3, h4, h5, h6, h7⟩ := h
  ⟨vl, v, by rw [h1, J.rset_put vl vp h6 h7 v l], h2, h3, hv, hA, h6, h7⟩
theorem rsee_1 {A : Nat → Prop} (w : World) (J : JA) (cs : List Value) (p : Int) (index : Int) (e : En) (h : RefAt w A J cs) (hA : ∀ k, A k → k < w.heap.size) (hok : OkR J) (hpl : J.put.length ≤ 4096) (ht : e.text.length ≤ 500000) (hm : mayE J ⟨1, p, index, e⟩ = 0) : SeeC w A J cs ⟨1, p, index, e⟩ := by
  have hlt0 : ∀ k, A k → k < w.heap.size := hA
  obtain ⟨al, cl, ap, cp, hlen, hone, -, -, -, c3, cT, -, c29, c30, hvl, hvp⟩ := h.open
  have HR := Lib.hid h
  have HV := Lib.hid hvp
  have HLEN := Lib.hid hlen
  have HONE := Lib.hid hone
  have HOK := Lib.hid hok
  have HTX := Lib.hid ht
  have HLT := Lib.hid hlt0
  have HM := Lib.hid (Mem.start0 w)
  have HPL := Lib.hid hpl
  clear hpl
  have hkr : kindsR J ⟨1, p, index, e⟩ = putR J p e := by simp [kindsR]
  by_cases h1 : e.member = p
  case neg =>
    have hq : putR J p e = (J, 406) := by unfold putR; rw [if_neg h1]
    have HQ := Lib.hid (seeR_bad hm (by rw [hkr, hq]; exact (by decide : (406 : Int) ≠ 0)))
    rw [hkr, hq] at HQ
    have h1' : (e.member != p) = true := by simpa using h1
    clear h1 hkr hq c29
    unfold SeeC
    have HXV := Lib.hid (show (⟨1, p, index, e⟩ : Sn).v = .agg #[.int .i64 1, .int .i64 p, .int .i64 index, .int .i64 e.kind, .int .i64 e.member, .int .i64 e.number, .string (bs e.text)] from rfl)
    have HEV := Lib.hid (show e.v = .agg #[.int .i64 e.kind, .int .i64 e.member, .int .i64 e.number, .string (bs e.text)] from rfl)
    rw [HXV.out]
    have HMM := Lib.hid hm
    clear h hA hok ht hlt0 hlen hone cT hvl hvp hm
    go_enter Tryd.func13, Tryd.ntmps13
    have fM := HM.out.facts
    simp only [seeS, talkR_tag, rowR_tag] at fM
    go_wp2_with (first
      | ((with_reducible refine at_list ?_); first
        | ((with_reducible refine at_load 49 _ rfl ?_); refine mem_load_wide 49 _ rfl rfl rfl (by with_reducible repeat first | exact HM.out | exact ph | apply pt | apply Mem.drew | apply Mem.alloc | apply Mem.set | apply Mem.allocO | (simp only [World.size_alloc, World.size_setCell, World.size_drew]; rfl) | rfl) (by with_reducible repeat first | exact ph | apply pt) Tryd.underlying49 rfl (infoRJ.trans (congrArg some (Eq.symm (by first | rfl | exact HLEN.out | exact HLEN1.out | (simp only [List.length_set]; first | exact HLEN.out | exact HLEN1.out))))) ?_)
        | ((first
          | ((with_reducible refine at_store 49 _ _ rfl ?_); refine mem_store_wide 49 _ _ rfl rfl rfl rfl (by with_reducible repeat first | exact HM.out | exact ph | apply pt | apply Mem.drew | apply Mem.alloc | apply Mem.set | apply Mem.allocO | (simp only [World.size_alloc, World.size_setCell, World.size_drew]; rfl) | rfl) (by with_reducible repeat first | exact ph | apply pt) infoRJ (by first | rfl | exact HLEN.out | exact HLEN1.out | (simp only [List.length_set]; first | exact HLEN.out | exact HLEN1.out)) (by first | rfl | exact HLEN.out | exact HLEN1.out | (simp only [List.length_set]; first | exact HLEN.out | exact HLEN1.out)) (by (repeat refine one_set ?_ rfl _); first | exact HONE.out | exact HONE1.out) ?_; intro w9 M)
          | ((with_reducible refine at_box 49 _ rfl ?_); refine mem_box_wide 49 _ rfl rfl rfl (by with_reducible repeat first | exact HM.out | exact ph | apply pt | apply Mem.drew | apply Mem.alloc | apply Mem.set | apply Mem.allocO | (simp only [World.size_alloc, World.size_setCell, World.size_drew]; rfl) | rfl) ?_; intro w9 n9 M)
          | ((with_reducible refine at_alloc 49 rfl ?_); refine mem_alloc_wide 49 rfl rfl (zeroRJ _) (by with_reducible repeat first | exact HM.out | exact ph | apply pt | apply Mem.drew | apply Mem.alloc | apply Mem.set | apply Mem.allocO | (simp only [World.size_alloc, World.size_setCell, World.size_drew]; rfl) | rfl) ?_; intro w9 n9 M)); (try simp only [List.set_cons_zero, List.set_cons_succ] at M); replace HM := Lib.hid M; clear M; clear fM; have fM := HM.out.facts; simp only [seeS, talkR_tag, rowR_tag] at fM)))
    all_goals clear fM
    first | apply Mem.call | apply Mem.postD | apply Mem.stop | apply Mem.toUpd | apply Mem.list | apply Mem.code | apply Mem.post | apply Mem.postM
    · with_reducible repeat first | exact HM.out | exact ph | apply pt | apply Mem.drew | apply Mem.alloc | apply Mem.set | apply Mem.allocO | (simp only [World.size_alloc, World.size_setCell, World.size_drew]; rfl) | rfl
    intro w1 M
    try simp only [List.set_cons_zero, List.set_cons_succ] at M
    replace HM := Lib.hid M
    clear M
    rw [← HXV.out]
    refine (rmay_any w1 J cs ⟨1, p, index, e⟩ (HR.out.ext HM.out.extTo) HTX.out).mono ?_
    rintro r w2 ⟨rfl, hE⟩
    rw [HMM.out]
    replace HM := Lib.hid (HM.out.ext hE)
    clear hE
    have fM := HM.out.facts
    simp only [seeS, talkR_tag, rowR_tag] at fM
    go_wp2_with (first
      | ((with_reducible refine at_list ?_); first
        | ((with_reducible refine at_load 49 _ rfl ?_); refine mem_load_wide 49 _ rfl rfl rfl (by with_reducible repeat first | exact HM.out | exact ph | apply pt | apply Mem.drew | apply Mem.alloc | apply Mem.set | apply Mem.allocO | (simp only [World.size_alloc, World.size_setCell, World.size_drew]; rfl) | rfl) (by with_reducible repeat first | exact ph | apply pt) Tryd.underlying49 rfl (infoRJ.trans (congrArg some (Eq.symm (by first | rfl | exact HLEN.out | exact HLEN1.out | (simp only [List.length_set]; first | exact HLEN.out | exact HLEN1.out))))) ?_)
        | ((first
          | ((with_reducible refine at_store 49 _ _ rfl ?_); refine mem_store_wide 49 _ _ rfl rfl rfl rfl (by with_reducible repeat first | exact HM.out | exact ph | apply pt | apply Mem.drew | apply Mem.alloc | apply Mem.set | apply Mem.allocO | (simp only [World.size_alloc, World.size_setCell, World.size_drew]; rfl) | rfl) (by with_reducible repeat first | exact ph | apply pt) infoRJ (by first | rfl | exact HLEN.out | exact HLEN1.out | (simp only [List.length_set]; first | exact HLEN.out | exact HLEN1.out)) (by first | rfl | exact HLEN.out | exact HLEN1.out | (simp only [List.length_set]; first | exact HLEN.out | exact HLEN1.out)) (by (repeat refine one_set ?_ rfl _); first | exact HONE.out | exact HONE1.out) ?_; intro w9 M)
          | ((with_reducible refine at_box 49 _ rfl ?_); refine mem_box_wide 49 _ rfl rfl rfl (by with_reducible repeat first | exact HM.out | exact ph | apply pt | apply Mem.drew | apply Mem.alloc | apply Mem.set | apply Mem.allocO | (simp only [World.size_alloc, World.size_setCell, World.size_drew]; rfl) | rfl) ?_; intro w9 n9 M)
          | ((with_reducible refine at_alloc 49 rfl ?_); refine mem_alloc_wide 49 rfl rfl (zeroRJ _) (by with_reducible repeat first | exact HM.out | exact ph | apply pt | apply Mem.drew | apply Mem.alloc | apply Mem.set | apply Mem.allocO | (simp only [World.size_alloc, World.size_setCell, World.size_drew]; rfl) | rfl) ?_; intro w9 n9 M)); (try simp only [List.set_cons_zero, List.set_cons_succ] at M); replace HM := Lib.hid M; clear M; clear fM; have fM := HM.out.facts; simp only [seeS, talkR_tag, rowR_tag] at fM)))
    all_goals clear fM
    first | apply Mem.call | apply Mem.postD | apply Mem.stop | apply Mem.toUpd | apply Mem.list | apply Mem.code | apply Mem.post | apply Mem.postM
    · with_reducible repeat first | exact HM.out | exact ph | apply pt | apply Mem.drew | apply Mem.alloc | apply Mem.set | apply Mem.allocO | (simp only [World.size_alloc, World.size_setCell, World.size_drew]; rfl) | rfl
    intro w5 M
    try simp only [List.set_cons_zero, List.set_cons_succ] at M
    replace HM := Lib.hid M
    clear M
    refine bodyPost_ret (results_ct Tryd.results13 _ rfl (loadVar_wide 49 (by with_reducible repeat first | exact HM.out | exact ph | apply pt | apply Mem.drew | apply Mem.alloc | apply Mem.set | apply Mem.allocO | (simp only [World.size_alloc, World.size_setCell, World.size_drew]; rfl) | rfl) (by with_reducible repeat first | exact ph | apply pt) Tryd.underlying49 rfl (infoRJ.trans (congrArg some (Eq.symm (by first | rfl | exact HLEN.out | exact HLEN1.out | (simp only [List.length_set]; first | exact HLEN.out | exact HLEN1.out))))))) rfl ?_
    rw [HQ.out]
    have HE5 := HM.out.extTo
    exact ⟨_, rfl, ((HR.out.setBroken (wrap64 (J.broken + 1))).ext HE5).mono (fun k hk => .inl hk), HE5⟩
  have hq : putR J p e = (J.putIn e, 0) := by unfold putR; rw [if_pos h1]
  have HQ := Lib.hid (seeR_ok hm (by rw [hkr, hq]))
  rw [hkr, hq] at HQ
  have h1' : (e.member != p) = false := by simpa using h1
  clear h1 hkr hq
  unfold SeeC
  have HXV := Lib.hid (show (⟨1, p, index, e⟩ : Sn).v = .agg #[.int .i64 1, .int .i64 p, .int .i64 index, .int .i64 e.kind, .int .i64 e.member, .int .i64 e.number, .string (bs e.text)] from rfl)
  have HEV := Lib.hid (show e.v = .agg #[.int .i64 e.kind, .int .i64 e.member, .int .i64 e.number, .string (bs e.text)] from rfl)
  rw [HXV.out]
  have HMM := Lib.hid hm
  clear h hA hok ht hlt0 hlen hone cT hvl hvp hm
  go_enter Tryd.func13, Tryd.ntmps13
  have fM := HM.out.facts
  simp only [seeS, talkR_tag, rowR_tag] at fM
  go_wp2_with (first
    | ((with_reducible refine at_list ?_); first
      | ((with_reducible refine at_load 49 _ rfl ?_); refine mem_load_wide 49 _ rfl rfl rfl (by with_reducible repeat first | exact HM.out | exact ph | apply pt | apply Mem.drew | apply Mem.alloc | apply Mem.set | apply Mem.allocO | (simp only [World.size_alloc, World.size_setCell, World.size_drew]; rfl) | rfl) (by with_reducible repeat first | exact ph | apply pt) Tryd.underlying49 rfl (infoRJ.trans (congrArg some (Eq.symm (by first | rfl | exact HLEN.out | exact HLEN1.out | (simp only [List.length_set]; first | exact HLEN.out | exact HLEN1.out))))) ?_)
      | ((first
        | ((with_reducible refine at_store 49 _ _ rfl ?_); refine mem_store_wide 49 _ _ rfl rfl rfl rfl (by with_reducible repeat first | exact HM.out | exact ph | apply pt | apply Mem.drew | apply Mem.alloc | apply Mem.set | apply Mem.allocO | (simp only [World.size_alloc, World.size_setCell, World.size_drew]; rfl) | rfl) (by with_reducible repeat first | exact ph | apply pt) infoRJ (by first | rfl | exact HLEN.out | exact HLEN1.out | (simp only [List.length_set]; first | exact HLEN.out | exact HLEN1.out)) (by first | rfl | exact HLEN.out | exact HLEN1.out | (simp only [List.length_set]; first | exact HLEN.out | exact HLEN1.out)) (by (repeat refine one_set ?_ rfl _); first | exact HONE.out | exact HONE1.out) ?_; intro w9 M)
        | ((with_reducible refine at_box 49 _ rfl ?_); refine mem_box_wide 49 _ rfl rfl rfl (by with_reducible repeat first | exact HM.out | exact ph | apply pt | apply Mem.drew | apply Mem.alloc | apply Mem.set | apply Mem.allocO | (simp only [World.size_alloc, World.size_setCell, World.size_drew]; rfl) | rfl) ?_; intro w9 n9 M)
        | ((with_reducible refine at_alloc 49 rfl ?_); refine mem_alloc_wide 49 rfl rfl (zeroRJ _) (by with_reducible repeat first | exact HM.out | exact ph | apply pt | apply Mem.drew | apply Mem.alloc | apply Mem.set | apply Mem.allocO | (simp only [World.size_alloc, World.size_setCell, World.size_drew]; rfl) | rfl) ?_; intro w9 n9 M)); (try simp only [List.set_cons_zero, List.set_cons_succ] at M); replace HM := Lib.hid M; clear M; clear fM; have fM := HM.out.facts; simp only [seeS, talkR_tag, rowR_tag] at fM)))
  all_goals clear fM
  first | apply Mem.call | apply Mem.postD | apply Mem.stop | apply Mem.toUpd | apply Mem.list | apply Mem.code | apply Mem.post | apply Mem.postM
  · with_reducible repeat first | exact HM.out | exact ph | apply pt | apply Mem.drew | apply Mem.alloc | apply Mem.set | apply Mem.allocO | (simp only [World.size_alloc, World.size_setCell, World.size_drew]; rfl) | rfl
  intro w1 M
  try simp only [List.set_cons_zero, List.set_cons_succ] at M
  replace HM := Lib.hid M
  clear M
  rw [← HXV.out]
  refine (rmay_any w1 J cs ⟨1, p, index, e⟩ (HR.out.ext HM.out.extTo) HTX.out).mono ?_
  rintro r w2 ⟨rfl, hE⟩
  rw [HMM.out]
  replace HM := Lib.hid (HM.out.ext hE)
  clear hE
  have fM := HM.out.facts
  simp only [seeS, talkR_tag, rowR_tag] at fM
  go_wp2_with (first
    | ((with_reducible refine at_list ?_); first
      | ((with_reducible refine at_load 49 _ rfl ?_); refine mem_load_wide 49 _ rfl rfl rfl (by with_reducible repeat first | exact HM.out | exact ph | apply pt | apply Mem.drew | apply Mem.alloc | apply Mem.set | apply Mem.allocO | (simp only [World.size_alloc, World.size_setCell, World.size_drew]; rfl) | rfl) (by with_reducible repeat first | exact ph | apply pt) Tryd.underlying49 rfl (infoRJ.trans (congrArg some (Eq.symm (by first | rfl | exact HLEN.out | exact HLEN1.out | (simp only [List.length_set]; first | exact HLEN.out | exact HLEN1.out))))) ?_)
      | ((first
        | ((with_reducible refine at_store 49 _ _ rfl ?_); refine mem_store_wide 49 _ _ rfl rfl rfl rfl (by with_reducible repeat first | exact HM.out | exact ph | apply pt | apply Mem.drew | apply Mem.alloc | apply Mem.set | apply Mem.allocO | (simp only [World.size_alloc, World.size_setCell, World.size_drew]; rfl) | rfl) (by with_reducible repeat first | exact ph | apply pt) infoRJ (by first | rfl | exact HLEN.out | exact HLEN1.out | (simp only [List.length_set]; first | exact HLEN.out | exact HLEN1.out)) (by first | rfl | exact HLEN.out | exact HLEN1.out | (simp only [List.length_set]; first | exact HLEN.out | exact HLEN1.out)) (by (repeat refine one_set ?_ rfl _); first | exact HONE.out | exact HONE1.out) ?_; intro w9 M)
        | ((with_reducible refine at_box 49 _ rfl ?_); refine mem_box_wide 49 _ rfl rfl rfl (by with_reducible repeat first | exact HM.out | exact ph | apply pt | apply Mem.drew | apply Mem.alloc | apply Mem.set | apply Mem.allocO | (simp only [World.size_alloc, World.size_setCell, World.size_drew]; rfl) | rfl) ?_; intro w9 n9 M)
        | ((with_reducible refine at_alloc 49 rfl ?_); refine mem_alloc_wide 49 rfl rfl (zeroRJ _) (by with_reducible repeat first | exact HM.out | exact ph | apply pt | apply Mem.drew | apply Mem.alloc | apply Mem.set | apply Mem.allocO | (simp only [World.size_alloc, World.size_setCell, World.size_drew]; rfl) | rfl) ?_; intro w9 n9 M)); (try simp only [List.set_cons_zero, List.set_cons_succ] at M); replace HM := Lib.hid M; clear M; clear fM; have fM := HM.out.facts; simp only [seeS, talkR_tag, rowR_tag] at fM)))
  all_goals clear fM
  first | apply Mem.call | apply Mem.postD | apply Mem.stop | apply Mem.toUpd | apply Mem.list | apply Mem.code | apply Mem.post | apply Mem.postM
  · with_reducible repeat first | exact HM.out | exact ph | apply pt | apply Mem.drew | apply Mem.alloc | apply Mem.set | apply Mem.allocO | (simp only [World.size_alloc, World.size_setCell, World.size_drew]; rfl) | rfl
  intro w3 M
  try simp only [List.set_cons_zero, List.set_cons_succ] at M
  replace HM := Lib.hid M
  clear M
  rw [← HEV.out]
  refine (rput_any w3 J cs e (HR.out.ext HM.out.extTo) HOK.out.puts).mono ?_
  rintro r w4 ⟨rfl, hE⟩
  replace HM := Lib.hid (HM.out.ext hE)
  clear hE
  by_cases h2 : e ∈ J.put
  · have hq : J.putIn e = J := by unfold JA.putIn; rw [if_pos h2]
    rw [hq] at HQ
    rw [decide_eq_true h2]
    clear hq h2 c29
    have fM := HM.out.facts
    simp only [seeS, talkR_tag, rowR_tag] at fM
    go_wp2_with (first
      | ((with_reducible refine at_list ?_); first
        | ((with_reducible refine at_load 49 _ rfl ?_); refine mem_load_wide 49 _ rfl rfl rfl (by with_reducible repeat first | exact HM.out | exact ph | apply pt | apply Mem.drew | apply Mem.alloc | apply Mem.set | apply Mem.allocO | (simp only [World.size_alloc, World.size_setCell, World.size_drew]; rfl) | rfl) (by with_reducible repeat first | exact ph | apply pt) Tryd.underlying49 rfl (infoRJ.trans (congrArg some (Eq.symm (by first | rfl | exact HLEN.out | exact HLEN1.out | (simp only [List.length_set]; first | exact HLEN.out | exact HLEN1.out))))) ?_)
        | ((first
          | ((with_reducible refine at_store 49 _ _ rfl ?_); refine mem_store_wide 49 _ _ rfl rfl rfl rfl (by with_reducible repeat first | exact HM.out | exact ph | apply pt | apply Mem.drew | apply Mem.alloc | apply Mem.set | apply Mem.allocO | (simp only [World.size_alloc, World.size_setCell, World.size_drew]; rfl) | rfl) (by with_reducible repeat first | exact ph | apply pt) infoRJ (by first | rfl | exact HLEN.out | exact HLEN1.out | (simp only [List.length_set]; first | exact HLEN.out | exact HLEN1.out)) (by first | rfl | exact HLEN.out | exact HLEN1.out | (simp only [List.length_set]; first | exact HLEN.out | exact HLEN1.out)) (by (repeat refine one_set ?_ rfl _); first | exact HONE.out | exact HONE1.out) ?_; intro w9 M)
          | ((with_reducible refine at_box 49 _ rfl ?_); refine mem_box_wide 49 _ rfl rfl rfl (by with_reducible repeat first | exact HM.out | exact ph | apply pt | apply Mem.drew | apply Mem.alloc | apply Mem.set | apply Mem.allocO | (simp only [World.size_alloc, World.size_setCell, World.size_drew]; rfl) | rfl) ?_; intro w9 n9 M)
          | ((with_reducible refine at_alloc 49 rfl ?_); refine mem_alloc_wide 49 rfl rfl (zeroRJ _) (by with_reducible repeat first | exact HM.out | exact ph | apply pt | apply Mem.drew | apply Mem.alloc | apply Mem.set | apply Mem.allocO | (simp only [World.size_alloc, World.size_setCell, World.size_drew]; rfl) | rfl) ?_; intro w9 n9 M)); (try simp only [List.set_cons_zero, List.set_cons_succ] at M); replace HM := Lib.hid M; clear M; clear fM; have fM := HM.out.facts; simp only [seeS, talkR_tag, rowR_tag] at fM)))
    all_goals clear fM
    refine bodyPost_ret (results_ct Tryd.results13 _ rfl (loadVar_wide 49 (by with_reducible repeat first | exact HM.out | exact ph | apply pt | apply Mem.drew | apply Mem.alloc | apply Mem.set | apply Mem.allocO | (simp only [World.size_alloc, World.size_setCell, World.size_drew]; rfl) | rfl) (by with_reducible repeat first | exact ph | apply pt) Tryd.underlying49 rfl (infoRJ.trans (congrArg some (Eq.symm (by first | rfl | exact HLEN.out | exact HLEN1.out | (simp only [List.length_set]; first | exact HLEN.out | exact HLEN1.out))))))) rfl ?_
    rw [HQ.out]
    refine ⟨_, rfl, ((HR.out).ext ?_).mono (fun k hk => .inl hk), ?_⟩ <;> (apply Mem.extTo; with_reducible repeat first | exact HM.out | exact ph | apply pt | apply Mem.drew | apply Mem.alloc | apply Mem.set | apply Mem.allocO | (simp only [World.size_alloc, World.size_setCell, World.size_drew]; rfl) | rfl)
  have hq : J.putIn e = { J with put := J.put ++ [e] } := by unfold JA.putIn; rw [if_neg h2]
  rw [hq] at HQ
  rw [decide_eq_false h2]
  clear hq h2
  have fM := HM.out.facts
  simp only [seeS, talkR_tag, rowR_tag] at fM
  go_wp2_with (first
    | ((with_reducible refine at_list ?_); first
      | ((with_reducible refine at_load 49 _ rfl ?_); refine mem_load_wide 49 _ rfl rfl rfl (by with_reducible repeat first | exact HM.out | exact ph | apply pt | apply Mem.drew | apply Mem.alloc | apply Mem.set | apply Mem.allocO | (simp only [World.size_alloc, World.size_setCell, World.size_drew]; rfl) | rfl) (by with_reducible repeat first | exact ph | apply pt) Tryd.underlying49 rfl (infoRJ.trans (congrArg some (Eq.symm (by first | rfl | exact HLEN.out | exact HLEN1.out | (simp only [List.length_set]; first | exact HLEN.out | exact HLEN1.out))))) ?_)
      | ((first
        | ((with_reducible refine at_store 49 _ _ rfl ?_); refine mem_store_wide 49 _ _ rfl rfl rfl rfl (by with_reducible repeat first | exact HM.out | exact ph | apply pt | apply Mem.drew | apply Mem.alloc | apply Mem.set | apply Mem.allocO | (simp only [World.size_alloc, World.size_setCell, World.size_drew]; rfl) | rfl) (by with_reducible repeat first | exact ph | apply pt) infoRJ (by first | rfl | exact HLEN.out | exact HLEN1.out | (simp only [List.length_set]; first | exact HLEN.out | exact HLEN1.out)) (by first | rfl | exact HLEN.out | exact HLEN1.out | (simp only [List.length_set]; first | exact HLEN.out | exact HLEN1.out)) (by (repeat refine one_set ?_ rfl _); first | exact HONE.out | exact HONE1.out) ?_; intro w9 M)
        | ((with_reducible refine at_box 49 _ rfl ?_); refine mem_box_wide 49 _ rfl rfl rfl (by with_reducible repeat first | exact HM.out | exact ph | apply pt | apply Mem.drew | apply Mem.alloc | apply Mem.set | apply Mem.allocO | (simp only [World.size_alloc, World.size_setCell, World.size_drew]; rfl) | rfl) ?_; intro w9 n9 M)
        | ((with_reducible refine at_alloc 49 rfl ?_); refine mem_alloc_wide 49 rfl rfl (zeroRJ _) (by with_reducible repeat first | exact HM.out | exact ph | apply pt | apply Mem.drew | apply Mem.alloc | apply Mem.set | apply Mem.allocO | (simp only [World.size_alloc, World.size_setCell, World.size_drew]; rfl) | rfl) ?_; intro w9 n9 M)); (try simp only [List.set_cons_zero, List.set_cons_succ] at M); replace HM := Lib.hid M; clear M; clear fM; have fM := HM.out.facts; simp only [seeS, talkR_tag, rowR_tag] at fM)))
  all_goals clear fM
  first | apply Mem.call | apply Mem.postD | apply Mem.stop | apply Mem.toUpd | apply Mem.list | apply Mem.code | apply Mem.post | apply Mem.postM
  · with_reducible repeat first | exact HM.out | exact ph | apply pt | apply Mem.drew | apply Mem.alloc | apply Mem.set | apply Mem.allocO | (simp only [World.size_alloc, World.size_setCell, World.size_drew]; rfl) | rfl
  intro w4 M
  try simp only [List.set_cons_zero, List.set_cons_succ] at M
  replace HM := Lib.hid M
  clear M
  have HE4 := Lib.hid HM.out.extTo
  have HV4 := Lib.hid (HV.out.ext HM.out.extTo)
  have fM := HM.out.facts
  simp only [seeS, talkR_tag, rowR_tag] at fM
  have hE0 : Keeps NoB w4 w4.drew := (Keeps.refl _ _).drew
  refine wp_region_forks [2, 5] [0, 3, 6, 7, 8, 9] (ClsE w4) (by kernel_rfl) ?_
  refine any_seg (L := #[false, true, true, false, true, true, false, false, false, false]) [(0, 1), (1, 2), (0, 4), (1, 5)] 6 (by kernel_rfl) (fun _ _ _ d _ h => by cases d <;> exact h) (by kernel_rfl) (by kernel_rfl) rfl rfl (ClsE.of (by repeat (first | assumption | exact Keeps.refl _ _ | refine Keeps.alloc ?_ _ | refine Keeps.setOne ?_ _ _ | refine Keeps.setCell ?_ _ _ (.inl (by first | rfl | exact .inl rfl | exact .inr rfl | omega)) | refine Keeps.drew ?_))) ?_; simp only [planL, List.getElem?_toArray, List.getElem?_cons_succ, List.getElem?_cons_zero]
  refine plan_pure rfl (fun K hK => quiet_run (v := ?_) (fun W _ => ?_) (hK _ ?_)); rotate_left; (go_simp <;> with_reducible rfl); clear hK K; simp only [nP]
  refine plan_load rfl (fun K hK => quiet_runE (v := ?_) (fun W => ?_) (hK _ ?_)); rotate_left; (go_simp <;> with_reducible rfl); clear hK K; simp only [nP]
  refine plan_pure rfl (fun K hK => quiet_run (v := ?_) (fun W _ => ?_) (hK _ ?_)); rotate_left; (go_simp <;> with_reducible rfl); clear hK K; simp only [nP]
  refine plan_load rfl (fun K hK => quiet_runE (v := ?_) (fun W => ?_) (hK _ ?_)); rotate_left; (go_simp <;> with_reducible rfl); clear hK K; simp only [nP]
  refine plan_nil ?_
  refine any_fork 0 6 (by kernel_rfl) (by kernel_rfl) rfl rfl rfl rfl (fun K hK => ?_) (fun K hK => ?_)
  · skip
    go_wp2_with fail
    refine ⟨ClsE.of (by repeat (first | assumption | exact Keeps.refl _ _ | refine Keeps.alloc ?_ _ | refine Keeps.setOne ?_ _ _ | refine Keeps.setCell ?_ _ _ (.inl (by first | rfl | exact .inl rfl | exact .inr rfl | omega)) | refine Keeps.drew ?_)), ?_⟩; try simp only [nP]
    refine any_seg (L := #[true, true, true, false, true, true, false, false, false, false]) [] 5 (by kernel_rfl) (fun _ _ _ d _ h => by cases d <;> exact h) (by kernel_rfl) (by kernel_rfl) rfl rfl (ClsE.of (by repeat (first | assumption | exact Keeps.refl _ _ | refine Keeps.alloc ?_ _ | refine Keeps.setOne ?_ _ _ | refine Keeps.setCell ?_ _ _ (.inl (by first | rfl | exact .inl rfl | exact .inr rfl | omega)) | refine Keeps.drew ?_))) ?_; simp only [planL, List.getElem?_toArray, List.getElem?_cons_succ, List.getElem?_cons_zero]
    refine plan_nil ?_
    refine any_fork 3 6 (by kernel_rfl) (by kernel_rfl) rfl rfl rfl rfl (fun K hK => ?_) (fun K hK => ?_)
    · skip
      refine Mem.oper (wr := w4) (by with_reducible repeat first | exact HM.out | exact ph | apply pt | apply Mem.drew | apply Mem.alloc | apply Mem.set | apply Mem.allocO | (simp only [World.size_alloc, World.size_setCell, World.size_drew]; rfl) | rfl) (by repeat (first | assumption | exact Keeps.refl _ _ | with_reducible apply Keeps.drew | with_reducible apply Keeps.alloc)) fun w5 M hE5 => ?_
      try simp only [List.set_cons_zero, List.set_cons_succ] at M
      replace HM := Lib.hid M
      clear M
      obtain ⟨v6, w6, hr, hm, hE6, hn6⟩ := Mem.copyEns 47 (HM.out.pick (r := cellsR _ 35 []) (by with_reducible repeat first | exact ph | apply pt)) hE5 (by first | exact Nat.le_refl _ | omega) HV4.out HPL.out
      replace HM := Lib.hid hm
      have HN6 := Lib.hid hn6
      refine oper_append_ran _ _ hr rfl rfl rfl ?_
      clear hr hm hn6 hE5
      refine hK _ _ ⟨ClsE.of (by assumption), ?_⟩; clear hK K; try simp only [nP]
      refine any_end [(2, 6)] [7, 8, 9] (by kernel_rfl) (fun _ _ _ d _ h => by cases d <;> exact h) (by kernel_rfl) (by kernel_rfl) rfl rfl (ClsE.of (by repeat (first | assumption | exact Keeps.refl _ _ | refine Keeps.alloc ?_ _ | refine Keeps.setOne ?_ _ _ | refine Keeps.setCell ?_ _ _ (.inl (by first | rfl | exact .inl rfl | exact .inr rfl | omega)) | refine Keeps.drew ?_))) ?_; simp only [planL, List.getElem?_toArray, List.getElem?_cons_succ, List.getElem?_cons_zero]
      refine plan_does rfl (fun K hK => ?_)
      go_wp2_with fail
      refine ⟨ClsE.of (by repeat (first | assumption | exact Keeps.refl _ _ | refine Keeps.alloc ?_ _ | refine Keeps.setOne ?_ _ _ | refine Keeps.setCell ?_ _ _ (.inl (by first | rfl | exact .inl rfl | exact .inr rfl | omega)) | refine Keeps.drew ?_)), ?_⟩; try simp only [nP]
      refine plan_nil ?_; simp only [tailL, List.filterMap_cons, List.filterMap_nil, List.getElem?_toArray, List.getElem?_cons_succ, List.getElem?_cons_zero]; change wpList _ _ _ (_ :: _ :: _ :: []) _ _
      clear fM
      try clear hE6
      have fM := HM.out.facts
      simp only [seeS, talkR_tag, rowR_tag] at fM
      go_wp2_with (at_builtin; refine standing ?_)
      all_goals clear fM
      first | apply Mem.call | apply Mem.postD | apply Mem.stop | apply Mem.toUpd | apply Mem.list | apply Mem.code | apply Mem.post | apply Mem.postM
      · with_reducible repeat first | exact HM.out | exact ph | apply pt | apply Mem.drew | apply Mem.alloc | apply Mem.set | apply Mem.allocO | (simp only [World.size_alloc, World.size_setCell, World.size_drew]; rfl) | rfl
      intro w7 M
      try simp only [List.set_cons_zero, List.set_cons_succ] at M
      replace HM := Lib.hid M
      clear M
      obtain ⟨Ahb, hb⟩ := HM.out.get (r := cellsR _ 35 [.int .i64 e.kind, .int .i64 e.member, .int .i64 e.number, .string (bs e.text)]) (by with_reducible repeat first | exact ph | apply pt)
      obtain ⟨v8, w8, hr, hm, -, hn8⟩ := Mem.addEn (c := 1) e 47 HM.out (by with_reducible repeat first | exact ph | apply pt) HM.out.extTo (fun k hk => Nat.le_trans HE4.out.size (HN6.out k hk)) hb.2.reads.1 HPL.out
      obtain ⟨l8, hl8⟩ : ∃ l8, J.put ++ [e] = l8 := ⟨_, rfl⟩
      rw [hl8] at hm
      have HL8 := Lib.hid hl8
      clear hl8
      obtain ⟨p8, c8, rfl⟩ := hm.fact (fun A h => row_len h)
      replace HM := Lib.hid hm
      refine ⟨?_⟩
      refine wpList_append_ran rfl _ _ hr rfl rfl rfl ?_
      clear hr hm hn8 hb
      try clear Ahb
      have fM := HM.out.facts
      simp only [seeS, talkR_tag, rowR_tag] at fM
      go_wp2_with (first
        | ((with_reducible refine at_list ?_); first
          | ((with_reducible refine at_load 49 _ rfl ?_); refine mem_load_wide 49 _ rfl rfl rfl (by with_reducible repeat first | exact HM.out | exact ph | apply pt | apply Mem.drew | apply Mem.alloc | apply Mem.set | apply Mem.allocO | (simp only [World.size_alloc, World.size_setCell, World.size_drew]; rfl) | rfl) (by with_reducible repeat first | exact ph | apply pt) Tryd.underlying49 rfl (infoRJ.trans (congrArg some (Eq.symm (by first | rfl | exact HLEN.out | exact HLEN1.out | (simp only [List.length_set]; first | exact HLEN.out | exact HLEN1.out))))) ?_)
          | ((first
            | ((with_reducible refine at_store 49 _ _ rfl ?_); refine mem_store_wide 49 _ _ rfl rfl rfl rfl (by with_reducible repeat first | exact HM.out | exact ph | apply pt | apply Mem.drew | apply Mem.alloc | apply Mem.set | apply Mem.allocO | (simp only [World.size_alloc, World.size_setCell, World.size_drew]; rfl) | rfl) (by with_reducible repeat first | exact ph | apply pt) infoRJ (by first | rfl | exact HLEN.out | exact HLEN1.out | (simp only [List.length_set]; first | exact HLEN.out | exact HLEN1.out)) (by first | rfl | exact HLEN.out | exact HLEN1.out | (simp only [List.length_set]; first | exact HLEN.out | exact HLEN1.out)) (by (repeat refine one_set ?_ rfl _); first | exact HONE.out | exact HONE1.out) ?_; intro w9 M)
            | ((with_reducible refine at_box 49 _ rfl ?_); refine mem_box_wide 49 _ rfl rfl rfl (by with_reducible repeat first | exact HM.out | exact ph | apply pt | apply Mem.drew | apply Mem.alloc | apply Mem.set | apply Mem.allocO | (simp only [World.size_alloc, World.size_setCell, World.size_drew]; rfl) | rfl) ?_; intro w9 n9 M)
            | ((with_reducible refine at_alloc 49 rfl ?_); refine mem_alloc_wide 49 rfl rfl (zeroRJ _) (by with_reducible repeat first | exact HM.out | exact ph | apply pt | apply Mem.drew | apply Mem.alloc | apply Mem.set | apply Mem.allocO | (simp only [World.size_alloc, World.size_setCell, World.size_drew]; rfl) | rfl) ?_; intro w9 n9 M)); (try simp only [List.set_cons_zero, List.set_cons_succ] at M); replace HM := Lib.hid M; clear M; clear fM; have fM := HM.out.facts; simp only [seeS, talkR_tag, rowR_tag] at fM)))
      all_goals clear fM
      first | apply Mem.call | apply Mem.postD | apply Mem.stop | apply Mem.toUpd | apply Mem.list | apply Mem.code | apply Mem.post | apply Mem.postM
      · with_reducible repeat first | exact HM.out | exact ph | apply pt | apply Mem.drew | apply Mem.alloc | apply Mem.set | apply Mem.allocO | (simp only [World.size_alloc, World.size_setCell, World.size_drew]; rfl) | rfl
      intro w9 M
      try simp only [List.set_cons_zero, List.set_cons_succ] at M
      replace HM := Lib.hid M
      clear M
      have hU := (HM.out.pick (r := rowR enE (.slice p8 l8.length c8) l8) (by with_reducible repeat first | exact ph | apply pt)).upd.row
      refine bodyPost_ret (results_ct Tryd.results13 _ rfl (loadVar_wide 49 (by with_reducible repeat first | exact HM.out | exact ph | apply pt | apply Mem.drew | apply Mem.alloc | apply Mem.set | apply Mem.allocO | (simp only [World.size_alloc, World.size_setCell, World.size_drew]; rfl) | rfl) (by with_reducible repeat first | exact ph | apply pt) Tryd.underlying49 rfl (infoRJ.trans (congrArg some (Eq.symm (by first | rfl | exact HLEN.out | exact HLEN1.out | (simp only [List.length_set]; first | exact HLEN.out | exact HLEN1.out))))))) rfl ?_
      rw [HQ.out]
      rw [HL8.out]
      exact ⟨_, rfl, ((HR.out.ext hU.2).mono (fun k hk => Or.inl hk)).setPut _ l8 (hU.1.mono (Nat.zero_le _)) (fun k hk => .inr (Win.block hU.1 k hk).1), hU.2⟩
    · skip
      go_wp2_with fail
      refine ⟨ClsE.of (by repeat (first | assumption | exact Keeps.refl _ _ | refine Keeps.alloc ?_ _ | refine Keeps.setOne ?_ _ _ | refine Keeps.setCell ?_ _ _ (.inl (by first | rfl | exact .inl rfl | exact .inr rfl | omega)) | refine Keeps.drew ?_)), ?_⟩; try simp only [nP]
      refine any_end [(2, 3)] [7, 8, 9] (by kernel_rfl) (fun _ _ _ d _ h => by cases d <;> exact h) (by kernel_rfl) (by kernel_rfl) rfl rfl (ClsE.of (by repeat (first | assumption | exact Keeps.refl _ _ | refine Keeps.alloc ?_ _ | refine Keeps.setOne ?_ _ _ | refine Keeps.setCell ?_ _ _ (.inl (by first | rfl | exact .inl rfl | exact .inr rfl | omega)) | refine Keeps.drew ?_))) ?_; simp only [planL, List.getElem?_toArray, List.getElem?_cons_succ, List.getElem?_cons_zero]
      refine plan_does rfl (fun K hK => ?_)
      refine Mem.oper (wr := w4) (by with_reducible repeat first | exact HM.out | exact ph | apply pt | apply Mem.drew | apply Mem.alloc | apply Mem.set | apply Mem.allocO | (simp only [World.size_alloc, World.size_setCell, World.size_drew]; rfl) | rfl) (by repeat (first | assumption | exact Keeps.refl _ _ | with_reducible apply Keeps.drew | with_reducible apply Keeps.alloc)) fun w5 M hE5 => ?_
      try simp only [List.set_cons_zero, List.set_cons_succ] at M
      replace HM := Lib.hid M
      clear M
      obtain ⟨v6, w6, hr, hm, hE6, hn6⟩ := Mem.copyEns 47 (HM.out.pick (r := cellsR _ 35 []) (by with_reducible repeat first | exact ph | apply pt)) hE5 (by first | exact Nat.le_refl _ | omega) HV4.out HPL.out
      replace HM := Lib.hid hm
      have HN6 := Lib.hid hn6
      refine oper_append_ran _ _ hr rfl rfl rfl ?_
      clear hr hm hn6 hE5
      refine hK _ _ ⟨ClsE.of (by assumption), ?_⟩; clear hK K; try simp only [nP]
      refine plan_nil ?_; simp only [tailL, List.filterMap_cons, List.filterMap_nil, List.getElem?_toArray, List.getElem?_cons_succ, List.getElem?_cons_zero]; change wpList _ _ _ (_ :: _ :: _ :: []) _ _
      clear fM
      try clear hE6
      have fM := HM.out.facts
      simp only [seeS, talkR_tag, rowR_tag] at fM
      go_wp2_with (at_builtin; refine standing ?_)
      all_goals clear fM
      first | apply Mem.call | apply Mem.postD | apply Mem.stop | apply Mem.toUpd | apply Mem.list | apply Mem.code | apply Mem.post | apply Mem.postM
      · with_reducible repeat first | exact HM.out | exact ph | apply pt | apply Mem.drew | apply Mem.alloc | apply Mem.set | apply Mem.allocO | (simp only [World.size_alloc, World.size_setCell, World.size_drew]; rfl) | rfl
      intro w7 M
      try simp only [List.set_cons_zero, List.set_cons_succ] at M
      replace HM := Lib.hid M
      clear M
      obtain ⟨Ahb, hb⟩ := HM.out.get (r := cellsR _ 35 [.int .i64 e.kind, .int .i64 e.member, .int .i64 e.number, .string (bs e.text)]) (by with_reducible repeat first | exact ph | apply pt)
      obtain ⟨v8, w8, hr, hm, -, hn8⟩ := Mem.addEn (c := 1) e 47 HM.out (by with_reducible repeat first | exact ph | apply pt) HM.out.extTo (fun k hk => Nat.le_trans HE4.out.size (HN6.out k hk)) hb.2.reads.1 HPL.out
      obtain ⟨l8, hl8⟩ : ∃ l8, J.put ++ [e] = l8 := ⟨_, rfl⟩
      rw [hl8] at hm
      have HL8 := Lib.hid hl8
      clear hl8
      obtain ⟨p8, c8, rfl⟩ := hm.fact (fun A h => row_len h)
      replace HM := Lib.hid hm
      refine ⟨?_⟩
      refine wpList_append_ran rfl _ _ hr rfl rfl rfl ?_
      clear hr hm hn8 hb
      try clear Ahb
      have fM := HM.out.facts
      simp only [seeS, talkR_tag, rowR_tag] at fM
      go_wp2_with (first
        | ((with_reducible refine at_list ?_); first
          | ((with_reducible refine at_load 49 _ rfl ?_); refine mem_load_wide 49 _ rfl rfl rfl (by with_reducible repeat first | exact HM.out | exact ph | apply pt | apply Mem.drew | apply Mem.alloc | apply Mem.set | apply Mem.allocO | (simp only [World.size_alloc, World.size_setCell, World.size_drew]; rfl) | rfl) (by with_reducible repeat first | exact ph | apply pt) Tryd.underlying49 rfl (infoRJ.trans (congrArg some (Eq.symm (by first | rfl | exact HLEN.out | exact HLEN1.out | (simp only [List.length_set]; first | exact HLEN.out | exact HLEN1.out))))) ?_)
          | ((first
            | ((with_reducible refine at_store 49 _ _ rfl ?_); refine mem_store_wide 49 _ _ rfl rfl rfl rfl (by with_reducible repeat first | exact HM.out | exact ph | apply pt | apply Mem.drew | apply Mem.alloc | apply Mem.set | apply Mem.allocO | (simp only [World.size_alloc, World.size_setCell, World.size_drew]; rfl) | rfl) (by with_reducible repeat first | exact ph | apply pt) infoRJ (by first | rfl | exact HLEN.out | exact HLEN1.out | (simp only [List.length_set]; first | exact HLEN.out | exact HLEN1.out)) (by first | rfl | exact HLEN.out | exact HLEN1.out | (simp only [List.length_set]; first | exact HLEN.out | exact HLEN1.out)) (by (repeat refine one_set ?_ rfl _); first | exact HONE.out | exact HONE1.out) ?_; intro w9 M)
            | ((with_reducible refine at_box 49 _ rfl ?_); refine mem_box_wide 49 _ rfl rfl rfl (by with_reducible repeat first | exact HM.out | exact ph | apply pt | apply Mem.drew | apply Mem.alloc | apply Mem.set | apply Mem.allocO | (simp only [World.size_alloc, World.size_setCell, World.size_drew]; rfl) | rfl) ?_; intro w9 n9 M)
            | ((with_reducible refine at_alloc 49 rfl ?_); refine mem_alloc_wide 49 rfl rfl (zeroRJ _) (by with_reducible repeat first | exact HM.out | exact ph | apply pt | apply Mem.drew | apply Mem.alloc | apply Mem.set | apply Mem.allocO | (simp only [World.size_alloc, World.size_setCell, World.size_drew]; rfl) | rfl) ?_; intro w9 n9 M)); (try simp only [List.set_cons_zero, List.set_cons_succ] at M); replace HM := Lib.hid M; clear M; clear fM; have fM := HM.out.facts; simp only [seeS, talkR_tag, rowR_tag] at fM)))
      all_goals clear fM
      first | apply Mem.call | apply Mem.postD | apply Mem.stop | apply Mem.toUpd | apply Mem.list | apply Mem.code | apply Mem.post | apply Mem.postM
      · with_reducible repeat first | exact HM.out | exact ph | apply pt | apply Mem.drew | apply Mem.alloc | apply Mem.set | apply Mem.allocO | (simp only [World.size_alloc, World.size_setCell, World.size_drew]; rfl) | rfl
      intro w9 M
      try simp only [List.set_cons_zero, List.set_cons_succ] at M
      replace HM := Lib.hid M
      clear M
      have hU := (HM.out.pick (r := rowR enE (.slice p8 l8.length c8) l8) (by with_reducible repeat first | exact ph | apply pt)).upd.row
      refine bodyPost_ret (results_ct Tryd.results13 _ rfl (loadVar_wide 49 (by with_reducible repeat first | exact HM.out | exact ph | apply pt | apply Mem.drew | apply Mem.alloc | apply Mem.set | apply Mem.allocO | (simp only [World.size_alloc, World.size_setCell, World.size_drew]; rfl) | rfl) (by with_reducible repeat first | exact ph | apply pt) Tryd.underlying49 rfl (infoRJ.trans (congrArg some (Eq.symm (by first | rfl | exact HLEN.out | exact HLEN1.out | (simp only [List.length_set]; first | exact HLEN.out | exact HLEN1.out))))))) rfl ?_
      rw [HQ.out]
      rw [HL8.out]
      exact ⟨_, rfl, ((HR.out.ext hU.2).mono (fun k hk => Or.inl hk)).setPut _ l8 (hU.1.mono (Nat.zero_le _)) (fun k hk => .inr (Win.block hU.1 k hk).1), hU.2⟩
  · skip
    go_wp2_with fail
    refine ⟨ClsE.of (by repeat (first | assumption | exact Keeps.refl _ _ | refine Keeps.alloc ?_ _ | refine Keeps.setOne ?_ _ _ | refine Keeps.setCell ?_ _ _ (.inl (by first | rfl | exact .inl rfl | exact .inr rfl | omega)) | refine Keeps.drew ?_)), ?_⟩; try simp only [nP]
    refine any_end [(2, 0), (2, 3)] [7, 8, 9] (by kernel_rfl) (fun _ _ _ d _ h => by cases d <;> exact h) (by kernel_rfl) (by kernel_rfl) rfl rfl (ClsE.of (by repeat (first | assumption | exact Keeps.refl _ _ | refine Keeps.alloc ?_ _ | refine Keeps.setOne ?_ _ _ | refine Keeps.setCell ?_ _ _ (.inl (by first | rfl | exact .inl rfl | exact .inr rfl | omega)) | refine Keeps.drew ?_))) ?_; simp only [planL, List.getElem?_toArray, List.getElem?_cons_succ, List.getElem?_cons_zero]
    refine plan_does rfl (fun K hK => ?_)
    go_wp2_with fail
    refine ⟨ClsE.of (by repeat (first | assumption | exact Keeps.refl _ _ | refine Keeps.alloc ?_ _ | refine Keeps.setOne ?_ _ _ | refine Keeps.setCell ?_ _ _ (.inl (by first | rfl | exact .inl rfl | exact .inr rfl | omega)) | refine Keeps.drew ?_)), ?_⟩; try simp only [nP]
    refine plan_does rfl (fun K hK => ?_)
    refine Mem.oper (wr := w4) (by with_reducible repeat first | exact HM.out | exact ph | apply pt | apply Mem.drew | apply Mem.alloc | apply Mem.set | apply Mem.allocO | (simp only [World.size_alloc, World.size_setCell, World.size_drew]; rfl) | rfl) (by repeat (first | assumption | exact Keeps.refl _ _ | with_reducible apply Keeps.drew | with_reducible apply Keeps.alloc)) fun w5 M hE5 => ?_
    try simp only [List.set_cons_zero, List.set_cons_succ] at M
    replace HM := Lib.hid M
    clear M
    obtain ⟨v6, w6, hr, hm, hE6, hn6⟩ := Mem.copyEns 47 (HM.out.pick (r := cellsR _ 35 []) (by with_reducible repeat first | exact ph | apply pt)) hE5 (by first | exact Nat.le_refl _ | omega) HV4.out HPL.out
    replace HM := Lib.hid hm
    have HN6 := Lib.hid hn6
    refine oper_append_ran _ _ hr rfl rfl rfl ?_
    clear hr hm hn6 hE5
    refine hK _ _ ⟨ClsE.of (by assumption), ?_⟩; clear hK K; try simp only [nP]
    refine plan_nil ?_; simp only [tailL, List.filterMap_cons, List.filterMap_nil, List.getElem?_toArray, List.getElem?_cons_succ, List.getElem?_cons_zero]; change wpList _ _ _ (_ :: _ :: _ :: []) _ _
    clear fM
    try clear hE6
    have fM := HM.out.facts
    simp only [seeS, talkR_tag, rowR_tag] at fM
    go_wp2_with (at_builtin; refine standing ?_)
    all_goals clear fM
    first | apply Mem.call | apply Mem.postD | apply Mem.stop | apply Mem.toUpd | apply Mem.list | apply Mem.code | apply Mem.post | apply Mem.postM
    · with_reducible repeat first | exact HM.out | exact ph | apply pt | apply Mem.drew | apply Mem.alloc | apply Mem.set | apply Mem.allocO | (simp only [World.size_alloc, World.size_setCell, World.size_drew]; rfl) | rfl
    intro w7 M
    try simp only [List.set_cons_zero, List.set_cons_succ] at M
    replace HM := Lib.hid M
    clear M
    obtain ⟨Ahb, hb⟩ := HM.out.get (r := cellsR _ 35 [.int .i64 e.kind, .int .i64 e.member, .int .i64 e.number, .string (bs e.text)]) (by with_reducible repeat first | exact ph | apply pt)
    obtain ⟨v8, w8, hr, hm, -, hn8⟩ := Mem.addEn (c := 1) e 47 HM.out (by with_reducible repeat first | exact ph | apply pt) HM.out.extTo (fun k hk => Nat.le_trans HE4.out.size (HN6.out k hk)) hb.2.reads.1 HPL.out
    obtain ⟨l8, hl8⟩ : ∃ l8, J.put ++ [e] = l8 := ⟨_, rfl⟩
    rw [hl8] at hm
    have HL8 := Lib.hid hl8
    clear hl8
    obtain ⟨p8, c8, rfl⟩ := hm.fact (fun A h => row_len h)
    replace HM := Lib.hid hm
    refine ⟨?_⟩
    refine wpList_append_ran rfl _ _ hr rfl rfl rfl ?_
    clear hr hm hn8 hb
    try clear Ahb
    have fM := HM.out.facts
    simp only [seeS, talkR_tag, rowR_tag] at fM
    go_wp2_with (first
      | ((with_reducible refine at_list ?_); first
        | ((with_reducible refine at_load 49 _ rfl ?_); refine mem_load_wide 49 _ rfl rfl rfl (by with_reducible repeat first | exact HM.out | exact ph | apply pt | apply Mem.drew | apply Mem.alloc | apply Mem.set | apply Mem.allocO | (simp only [World.size_alloc, World.size_setCell, World.size_drew]; rfl) | rfl) (by with_reducible repeat first | exact ph | apply pt) Tryd.underlying49 rfl (infoRJ.trans (congrArg some (Eq.symm (by first | rfl | exact HLEN.out | exact HLEN1.out | (simp only [List.length_set]; first | exact HLEN.out | exact HLEN1.out))))) ?_)
        | ((first
          | ((with_reducible refine at_store 49 _ _ rfl ?_); refine mem_store_wide 49 _ _ rfl rfl rfl rfl (by with_reducible repeat first | exact HM.out | exact ph | apply pt | apply Mem.drew | apply Mem.alloc | apply Mem.set | apply Mem.allocO | (simp only [World.size_alloc, World.size_setCell, World.size_drew]; rfl) | rfl) (by with_reducible repeat first | exact ph | apply pt) infoRJ (by first | rfl | exact HLEN.out | exact HLEN1.out | (simp only [List.length_set]; first | exact HLEN.out | exact HLEN1.out)) (by first | rfl | exact HLEN.out | exact HLEN1.out | (simp only [List.length_set]; first | exact HLEN.out | exact HLEN1.out)) (by (repeat refine one_set ?_ rfl _); first | exact HONE.out | exact HONE1.out) ?_; intro w9 M)
          | ((with_reducible refine at_box 49 _ rfl ?_); refine mem_box_wide 49 _ rfl rfl rfl (by with_reducible repeat first | exact HM.out | exact ph | apply pt | apply Mem.drew | apply Mem.alloc | apply Mem.set | apply Mem.allocO | (simp only [World.size_alloc, World.size_setCell, World.size_drew]; rfl) | rfl) ?_; intro w9 n9 M)
          | ((with_reducible refine at_alloc 49 rfl ?_); refine mem_alloc_wide 49 rfl rfl (zeroRJ _) (by with_reducible repeat first | exact HM.out | exact ph | apply pt | apply Mem.drew | apply Mem.alloc | apply Mem.set | apply Mem.allocO | (simp only [World.size_alloc, World.size_setCell, World.size_drew]; rfl) | rfl) ?_; intro w9 n9 M)); (try simp only [List.set_cons_zero, List.set_cons_succ] at M); replace HM := Lib.hid M; clear M; clear fM; have fM := HM.out.facts; simp only [seeS, talkR_tag, rowR_tag] at fM)))
    all_goals clear fM
    first | apply Mem.call | apply Mem.postD | apply Mem.stop | apply Mem.toUpd | apply Mem.list | apply Mem.code | apply Mem.post | apply Mem.postM
    · with_reducible repeat first | exact HM.out | exact ph | apply pt | apply Mem.drew | apply Mem.alloc | apply Mem.set | apply Mem.allocO | (simp only [World.size_alloc, World.size_setCell, World.size_drew]; rfl) | rfl
    intro w9 M
    try simp only [List.set_cons_zero, List.set_cons_succ] at M
    replace HM := Lib.hid M
    clear M
    have hU := (HM.out.pick (r := rowR enE (.slice p8 l8.length c8) l8) (by with_reducible repeat first | exact ph | apply pt)).upd.row
    refine bodyPost_ret (results_ct Tryd.results13 _ rfl (loadVar_wide 49 (by with_reducible repeat first | exact HM.out | exact ph | apply pt | apply Mem.drew | apply Mem.alloc | apply Mem.set | apply Mem.allocO | (simp only [World.size_alloc, World.size_setCell, World.size_drew]; rfl) | rfl) (by with_reducible repeat first | exact ph | apply pt) Tryd.underlying49 rfl (infoRJ.trans (congrArg some (Eq.symm (by first | rfl | exact HLEN.out | exact HLEN1.out | (simp only [List.length_set]; first | exact HLEN.out | exact HLEN1.out))))))) rfl ?_
    rw [HQ.out]
    rw [HL8.out]
    exact ⟨_, rfl, ((HR.out.ext hU.2).mono (fun k hk => Or.inl hk)).setPut _ l8 (hU.1.mono (Nat.zero_le _)) (fun k hk => .inr (Win.block hU.1 k hk).1), hU.2⟩
theorem may_if {a b : Prop} [Decidable a] [Decidable b] {x : Int} (h : x = if a then 2 else if b then 4 else 0) (h0 : x = 0) : ¬ a ∧ ¬ b := by
  rw [h0] at h
  split at h
  · cases h
  · split at h
    · cases h
    · exact ⟨by assumption, by assumption⟩
theorem rsee_any {A : Nat → Prop} (w : World) (J : JA) (cs : List Value) (x : Sn) (h : RefAt w A J cs) (hA : ∀ k, A k → k < w.heap.size) (hok : OkR J) (hpl : J.put.length ≤ 4096) (ht : x.e.text.length ≤ 500000) : SeeC w A J cs x := by
  by_cases hm : mayE J x = 0
  case neg => exact rsee_may w J cs x h hA hok ht hm
  obtain ⟨kind, who, index, e⟩ := x
  by_cases hk : 1 ≤ kind ∧ kind ≤ 6
  case neg => rw [mayE_none hk] at hm; cases hm
  have h9 := hok.n
  have h16 := hok.m
  obtain rfl | rfl | rfl | rfl | rfl | rfl : kind = 1 ∨ kind = 2 ∨ kind = 3 ∨ kind = 4 ∨ kind = 5 ∨ kind = 6 := by omega
  · exact rsee_1 w J cs who index e h hA hok hpl ht hm
  · obtain ⟨h1, h2⟩ := may_if (show mayE J ⟨2, who, index, e⟩ = if index < 0 ∨ (e.kind = 1 ∨ enB e = false) then 2 else if who < 0 ∨ J.n ≤ who then 4 else 0 by simp [mayE, kindF]) hm
    obtain ⟨p, rfl⟩ : ∃ p : Nat, who = p := ⟨who.toNat, by omega⟩
    exact rsee_2 w J cs p index e h hA hok ht (by omega) (by have h3 : ¬ index < 0 := fun h => h1 (.inl h); omega) hm
  · obtain ⟨h1, h2⟩ := may_if (show mayE J ⟨3, who, index, e⟩ = if index < 0 then 2 else if who < 0 ∨ J.n ≤ who then 4 else 0 by simp [mayE, kindF]) hm
    obtain ⟨p, rfl⟩ : ∃ p : Nat, who = p := ⟨who.toNat, by omega⟩
    exact rsee_3 w J cs p index e h hA hok ht (by omega) hm
  · obtain ⟨h1, h2⟩ := may_if (show mayE J ⟨4, who, index, e⟩ = if index < 0 then 2 else if who < 0 ∨ J.m ≤ who then 4 else 0 by simp [mayE, kindF]) hm
    obtain ⟨p, rfl⟩ : ∃ p : Nat, who = p := ⟨who.toNat, by omega⟩
    exact rsee_4 w J cs p index e h hA hok ht (by omega) (by omega) hm
  · obtain ⟨h1, h2⟩ := may_if (show mayE J ⟨5, who, index, e⟩ = if index < 0 ∨ (e.kind = 1 ∨ enB e = false) then 2 else if who < 0 ∨ J.m ≤ who then 4 else 0 by simp [mayE, kindF]) hm
    obtain ⟨p, rfl⟩ : ∃ p : Nat, who = p := ⟨who.toNat, by omega⟩
    exact rsee_5 w J cs p index e h hA hok ht (by omega) (by have h3 : ¬ index < 0 := fun h => h1 (.inl h); omega) hm
  · obtain ⟨h1, h2⟩ := may_if (show mayE J ⟨6, who, index, e⟩ = if index < -1 then 2 else if who < 0 ∨ J.m ≤ who then 4 else 0 by simp [mayE, kindF]) hm
    obtain ⟨p, rfl⟩ : ∃ p : Nat, who = p := ⟨who.toNat, by omega⟩
    exact rsee_6 w J cs p index e h hA hok ht (by omega) hm
/-- what comes by a thing seen is such again -/
theorem putIn_len (J : JA) (e : En) : (J.putIn e).put.length ≤ J.put.length + 1 := by
  unfold JA.putIn
  dsimp only
  split
  · omega
  · simp
theorem kindsR_st (J : JA) (x : Sn) (h : J.T.Ok) : (kindsR J x).1.T.Ok ∧ (kindsR J x).1.put.length ≤ J.put.length + 1 := by
  by_cases h0 : (kindsR J x).2 = 0
  case neg => rw [kindsR_bad J x h0]; exact ⟨h, Nat.le_succ _⟩
  clear h0
  unfold kindsR
  split
  · unfold putR; split
    · exact ⟨h, putIn_len J x.e⟩
    · exact ⟨h, Nat.le_succ _⟩
  split
  · unfold lineR
    split
    · exact ⟨h, Nat.le_succ _⟩
    split
    · split
      · exact ⟨h, Nat.le_succ _⟩
      · exact ⟨h, Nat.le_succ _⟩
    split
    · exact ⟨h, Nat.le_succ _⟩
    split
    · rename_i hc
      obtain ⟨h1, h2⟩ := hc
      rw [Bool.and_eq_true] at h2
      exact ⟨h.put x.e h2.1 h2.2, Nat.le_succ _⟩
    · exact ⟨h, Nat.le_succ _⟩
  split
  · unfold backR; repeat' split
    all_goals exact ⟨h, Nat.le_succ _⟩
  split
  · unfold beganR; repeat' split
    all_goals exact ⟨h, Nat.le_succ _⟩
  split
  · unfold toldR; repeat' split
    all_goals exact ⟨h, Nat.le_succ _⟩
  · unfold wentR; split
    all_goals exact ⟨h, Nat.le_succ _⟩
theorem seeR_st (J : JA) (x : Sn) (h : J.T.Ok) : (seeR J x).1.T.Ok ∧ (seeR J x).1.put.length ≤ J.put.length + 1 := by
  have hk := kindsR_st J x h
  unfold seeR
  split
  · split
    · exact hk
    · exact hk
  · exact ⟨h, Nat.le_succ _⟩
theorem J0_okr {c m : Int} (hc : RightC c) (h2 : m ≤ 16) : OkR (J0 c m) := ⟨OkJ.new hc h2, T0_ok, by show (0 : Nat) ≤ 1000000; omega⟩
abbrev nilV : Value := .slice none 0 0
theorem build_rj (w : World) (c m : Int) : (Instr.build 49 #[(0, .int .i64 c), (1, .int .i64 m)]).run Tryd.prog w = .ok (.agg ((J0k c m 0).rcells nilV nilV).toArray) w := by kernel_rfl
theorem J0k_rset (c m : Int) (k : Nat) (hk : k < 16) : ((J0k c m k).rcells nilV nilV).set (13 + k) (.int .i64 (-1)) = (J0k c m (k + 1)).rcells nilV nilV := by
  obtain rfl | rfl | rfl | rfl | rfl | rfl | rfl | rfl | rfl | rfl | rfl | rfl | rfl | rfl | rfl | rfl : k = 0 ∨ k = 1 ∨ k = 2 ∨ k = 3 ∨ k = 4 ∨ k = 5 ∨ k = 6 ∨ k = 7 ∨ k = 8 ∨ k = 9 ∨ k = 10 ∨ k = 11 ∨ k = 12 ∨ k = 13 ∨ k = 14 ∨ k = 15 := by omega
  all_goals rfl
theorem rnew_any (w : World) (c m : Int) (hc : RightC c) (h1 : 1 ≤ m) (h2 : m ≤ 16) :
    Calls Tryd.prog 12 #[.int .i64 c, .int .i64 m] w fun r w' => ∃ cs, r = .returned (.tuple #[.agg cs.toArray, .int .i64 0]) ∧ RefAt w' NoB (J0 c m) cs ∧ Ext w w' := by
  have HM := Lib.hid (Mem.start0 w)
  have HC := Lib.hid hc
  have e1 : ¬ m < 1 := by omega
  have e2 : ¬ 16 < m := by omega
  have HLEN := Lib.hid (show ((J0k c m 0).rcells nilV nilV).length = 31 from rfl)
  have HONE := Lib.hid ((J0k c m 0).rcells_one none none 0 0 0 0)
  clear hc
  go_enter Tryd.func12, Tryd.ntmps12
  have fM := HM.out.facts
  simp only [seeS, talkR_tag, rowR_tag] at fM
  go_wp2_with (first
    | ((with_reducible refine at_list ?_); first
      | ((with_reducible refine at_load 49 _ rfl ?_); refine mem_load_wide 49 _ rfl rfl rfl (by with_reducible repeat first | exact HM.out | exact ph | apply pt | apply Mem.drew | apply Mem.alloc | apply Mem.set | apply Mem.allocO | (simp only [World.size_alloc, World.size_setCell, World.size_drew]; rfl) | rfl) (by with_reducible repeat first | exact ph | apply pt) Tryd.underlying49 rfl (infoRJ.trans (congrArg some (Eq.symm (by first | rfl | exact HLEN.out | exact HLEN1.out | (simp only [List.length_set]; first | exact HLEN.out | exact HLEN1.out))))) ?_)
      | ((first
        | ((with_reducible refine at_store 49 _ _ rfl ?_); refine mem_store_wide 49 _ _ rfl rfl rfl rfl (by with_reducible repeat first | exact HM.out | exact ph | apply pt | apply Mem.drew | apply Mem.alloc | apply Mem.set | apply Mem.allocO | (simp only [World.size_alloc, World.size_setCell, World.size_drew]; rfl) | rfl) (by with_reducible repeat first | exact ph | apply pt) infoRJ (by first | rfl | exact HLEN.out | exact HLEN1.out | (simp only [List.length_set]; first | exact HLEN.out | exact HLEN1.out)) (by first | rfl | exact HLEN.out | exact HLEN1.out | (simp only [List.length_set]; first | exact HLEN.out | exact HLEN1.out)) (by (repeat refine one_set ?_ rfl _); first | exact HONE.out | exact HONE1.out) ?_; intro w9 M)
        | ((with_reducible refine at_box 49 _ rfl ?_); refine mem_box_wide 49 _ rfl rfl rfl (by with_reducible repeat first | exact HM.out | exact ph | apply pt | apply Mem.drew | apply Mem.alloc | apply Mem.set | apply Mem.allocO | (simp only [World.size_alloc, World.size_setCell, World.size_drew]; rfl) | rfl) ?_; intro w9 n9 M)
        | ((with_reducible refine at_alloc 49 rfl ?_); refine mem_alloc_wide 49 rfl rfl (zeroRJ _) (by with_reducible repeat first | exact HM.out | exact ph | apply pt | apply Mem.drew | apply Mem.alloc | apply Mem.set | apply Mem.allocO | (simp only [World.size_alloc, World.size_setCell, World.size_drew]; rfl) | rfl) ?_; intro w9 n9 M)); (try simp only [List.set_cons_zero, List.set_cons_succ] at M); replace HM := Lib.hid M; clear M; clear fM; have fM := HM.out.facts; simp only [seeS, talkR_tag, rowR_tag] at fM)))
  all_goals clear fM
  rename Nat => n4
  refine (ref12_any _ c).mono ?_
  rintro r wq ⟨rfl, hwq⟩
  rw [hwq, decide_eq_true HC.out]
  clear hwq wq
  have fM := HM.out.facts
  simp only [seeS, talkR_tag, rowR_tag] at fM
  go_wp2_with (first
    | ((with_reducible refine at_list ?_); first
      | ((with_reducible refine at_load 49 _ rfl ?_); refine mem_load_wide 49 _ rfl rfl rfl (by with_reducible repeat first | exact HM.out | exact ph | apply pt | apply Mem.drew | apply Mem.alloc | apply Mem.set | apply Mem.allocO | (simp only [World.size_alloc, World.size_setCell, World.size_drew]; rfl) | rfl) (by with_reducible repeat first | exact ph | apply pt) Tryd.underlying49 rfl (infoRJ.trans (congrArg some (Eq.symm (by first | rfl | exact HLEN.out | exact HLEN1.out | (simp only [List.length_set]; first | exact HLEN.out | exact HLEN1.out))))) ?_)
      | ((first
        | ((with_reducible refine at_store 49 _ _ rfl ?_); refine mem_store_wide 49 _ _ rfl rfl rfl rfl (by with_reducible repeat first | exact HM.out | exact ph | apply pt | apply Mem.drew | apply Mem.alloc | apply Mem.set | apply Mem.allocO | (simp only [World.size_alloc, World.size_setCell, World.size_drew]; rfl) | rfl) (by with_reducible repeat first | exact ph | apply pt) infoRJ (by first | rfl | exact HLEN.out | exact HLEN1.out | (simp only [List.length_set]; first | exact HLEN.out | exact HLEN1.out)) (by first | rfl | exact HLEN.out | exact HLEN1.out | (simp only [List.length_set]; first | exact HLEN.out | exact HLEN1.out)) (by (repeat refine one_set ?_ rfl _); first | exact HONE.out | exact HONE1.out) ?_; intro w9 M)
        | ((with_reducible refine at_box 49 _ rfl ?_); refine mem_box_wide 49 _ rfl rfl rfl (by with_reducible repeat first | exact HM.out | exact ph | apply pt | apply Mem.drew | apply Mem.alloc | apply Mem.set | apply Mem.allocO | (simp only [World.size_alloc, World.size_setCell, World.size_drew]; rfl) | rfl) ?_; intro w9 n9 M)
        | ((with_reducible refine at_alloc 49 rfl ?_); refine mem_alloc_wide 49 rfl rfl (zeroRJ _) (by with_reducible repeat first | exact HM.out | exact ph | apply pt | apply Mem.drew | apply Mem.alloc | apply Mem.set | apply Mem.allocO | (simp only [World.size_alloc, World.size_setCell, World.size_drew]; rfl) | rfl) ?_; intro w9 n9 M)); (try simp only [List.set_cons_zero, List.set_cons_succ] at M); replace HM := Lib.hid M; clear M; clear fM; have fM := HM.out.facts; simp only [seeS, talkR_tag, rowR_tag] at fM))
    | (refine wpList_build_wide 49 (v := .agg ((J0k c m 0).rcells nilV nilV).toArray) rfl rfl (build_rj _ c m) ?_))
  all_goals clear fM
  first | apply Mem.call | apply Mem.postD | apply Mem.stop | apply Mem.toUpd | apply Mem.list | apply Mem.code | apply Mem.post | apply Mem.postM
  · with_reducible repeat first | exact HM.out | exact ph | apply pt | apply Mem.drew | apply Mem.alloc | apply Mem.set | apply Mem.allocO | (simp only [World.size_alloc, World.size_setCell, World.size_drew]; rfl) | rfl
  intro w5 M
  try simp only [List.set_cons_zero, List.set_cons_succ] at M
  replace HM := Lib.hid M
  clear M
  go_loopw [7] (fun i wr => ∃ k : Nat, k ≤ 16 ∧ i = .int .i64 k ∧ Hid (Mem NoB w wr [cellsR n9 49 ((J0k c m k).rcells nilV nilV), cellsR n4 49 zRJ])) (fun i _ => 16 - (intOf i).toNat)
  case atStart => exact ⟨0, Nat.zero_le _, rfl, HM⟩
  case round =>
    obtain ⟨k, hk, rfl, HM⟩ := hrel
    by_cases hlt : k < 16
    · have g3 : (k : Int) < 16 := by omega
      have g4 : ¬ (k : Int) < 0 := by omega
      have c0 : ∃ u, ((J0k c m k).rcells nilV nilV)[13 + k]? = some u := ⟨_, ((J0k c m k).rat nilV nilV rfl (by simp [J0k]; omega)).2.2.2.2.2.1 k hlt⟩
      obtain ⟨u, hu⟩ := c0
      have hset := J0k_rset c m k hlt
      obtain ⟨cs, hcs⟩ : ∃ cs, (J0k c m k).rcells nilV nilV = cs := ⟨_, rfl⟩
      rw [hcs] at hu HM hset
      have HS := Lib.hid hset
      clear hset hcs
      have fM := HM.out.facts
      simp only [seeS, talkR_tag, rowR_tag] at fM
      go_wp2_with fail
      all_goals clear fM
      go_roundw
      case rel =>
        refine ⟨k + 1, by omega, by go_num, Lib.hid ?_⟩
        rw [← HS.out]
        apply Mem.mem
        · skip
          with_reducible repeat first | exact HM.out | exact ph | apply pt | apply Mem.drew | apply Mem.alloc | apply Mem.set | apply Mem.allocO | (simp only [World.size_alloc, World.size_setCell, World.size_drew]; rfl) | rfl
        intro w8 M
        exact Mem.sub M (by repeat first | exact Sub.nil | refine Sub.cons (by with_reducible repeat first | exact ph | apply pt) ?_)
      case measure => simp [intOf]; omega
    · obtain rfl : k = 16 := by omega
      have HLEN1 := Lib.hid (show ((J0k c m 16).rcells nilV nilV).length = 31 from rfl)
      have HONE1 := Lib.hid ((J0k c m 16).rcells_one none none 0 0 0 0)
      have fM := HM.out.facts
      simp only [seeS, talkR_tag, rowR_tag] at fM
      go_wp2_with (first
        | ((with_reducible refine at_list ?_); first
          | ((with_reducible refine at_load 49 _ rfl ?_); refine mem_load_wide 49 _ rfl rfl rfl (by with_reducible repeat first | exact HM.out | exact ph | apply pt | apply Mem.drew | apply Mem.alloc | apply Mem.set | apply Mem.allocO | (simp only [World.size_alloc, World.size_setCell, World.size_drew]; rfl) | rfl) (by with_reducible repeat first | exact ph | apply pt) Tryd.underlying49 rfl (infoRJ.trans (congrArg some (Eq.symm (by first | rfl | exact HLEN.out | exact HLEN1.out | (simp only [List.length_set]; first | exact HLEN.out | exact HLEN1.out))))) ?_)
          | ((first
            | ((with_reducible refine at_store 49 _ _ rfl ?_); refine mem_store_wide 49 _ _ rfl rfl rfl rfl (by with_reducible repeat first | exact HM.out | exact ph | apply pt | apply Mem.drew | apply Mem.alloc | apply Mem.set | apply Mem.allocO | (simp only [World.size_alloc, World.size_setCell, World.size_drew]; rfl) | rfl) (by with_reducible repeat first | exact ph | apply pt) infoRJ (by first | rfl | exact HLEN.out | exact HLEN1.out | (simp only [List.length_set]; first | exact HLEN.out | exact HLEN1.out)) (by first | rfl | exact HLEN.out | exact HLEN1.out | (simp only [List.length_set]; first | exact HLEN.out | exact HLEN1.out)) (by (repeat refine one_set ?_ rfl _); first | exact HONE.out | exact HONE1.out) ?_; intro w9 M)
            | ((with_reducible refine at_box 49 _ rfl ?_); refine mem_box_wide 49 _ rfl rfl rfl (by with_reducible repeat first | exact HM.out | exact ph | apply pt | apply Mem.drew | apply Mem.alloc | apply Mem.set | apply Mem.allocO | (simp only [World.size_alloc, World.size_setCell, World.size_drew]; rfl) | rfl) ?_; intro w9 n9 M)
            | ((with_reducible refine at_alloc 49 rfl ?_); refine mem_alloc_wide 49 rfl rfl (zeroRJ _) (by with_reducible repeat first | exact HM.out | exact ph | apply pt | apply Mem.drew | apply Mem.alloc | apply Mem.set | apply Mem.allocO | (simp only [World.size_alloc, World.size_setCell, World.size_drew]; rfl) | rfl) ?_; intro w9 n9 M)); (try simp only [List.set_cons_zero, List.set_cons_succ] at M); replace HM := Lib.hid M; clear M; clear fM; have fM := HM.out.facts; simp only [seeS, talkR_tag, rowR_tag] at fM)))
      all_goals clear fM
      first | apply Mem.call | apply Mem.postD | apply Mem.stop | apply Mem.toUpd | apply Mem.list | apply Mem.code | apply Mem.post | apply Mem.postM
      · with_reducible repeat first | exact HM.out | exact ph | apply pt | apply Mem.drew | apply Mem.alloc | apply Mem.set | apply Mem.allocO | (simp only [World.size_alloc, World.size_setCell, World.size_drew]; rfl) | rfl
      intro w6 M
      try simp only [List.set_cons_zero, List.set_cons_succ] at M
      replace HM := Lib.hid M
      clear M
      refine bodyPost_ret (results_ct Tryd.results12 _ rfl (loadVar_wide 49 (by with_reducible repeat first | exact HM.out | exact ph | apply pt | apply Mem.drew | apply Mem.alloc | apply Mem.set | apply Mem.allocO | (simp only [World.size_alloc, World.size_setCell, World.size_drew]; rfl) | rfl) (by with_reducible repeat first | exact ph | apply pt) Tryd.underlying49 rfl (infoRJ.trans (congrArg some (Eq.symm (by first | rfl | exact HLEN.out | exact HLEN1.out | (simp only [List.length_set]; first | exact HLEN.out | exact HLEN1.out))))))) rfl ?_
      exact ⟨_, rfl, ⟨nilV, nilV, rfl, Win.nil _ _ _, (fun k hk => by cases hk), Win.nil _ _ _, (fun k hk => by cases hk), rfl, rfl⟩, HM.out.extTo⟩
end Go.Proofs.YthhdgjofagdjeaaDoor
end
section
/- What the laws of layer 30 share: things seen as an argument, few, both judges told a list of things. Conditions: as each says. -/
set_option linter.unusedVariables false
set_option linter.unusedSimpArgs false
set_option maxHeartbeats 4000000
set_option maxRecDepth 100000
namespace Go.Proofs.YthhdgjofagdjeaaDoor
open Go.RowKit Go.Shelf Go.ChangeShapes Go.WideShapes
def Sn.cells (x : Sn) : List Value := [.int .i64 x.kind, .int .i64 x.who, .int .i64 x.index, .int .i64 x.e.kind, .int .i64 x.e.member, .int .i64 x.e.number, .string (bs x.e.text)]
/-- a thing seen whose numbers fit -/
structure OkS (x : Sn) : Prop where
  kind : I64 x.kind
  e : OkE x.e
def SnEn (cs : List Value) (x : Sn) : Prop := cs = x.cells ∧ OkS x
/-- a slice of things seen -/
def Sns (w : World) (A : Nat → Prop) (v : Value) (l : List Sn) : Prop := SlV A (AtOf w 7 SnEn) 7 v l
section
variable {w w' : World} {A S : Nat → Prop} {v : Value} {l : List Sn}
theorem Sns.keeps (h : Sns w A v l) (hk : Keeps S w w') (hA : ∀ k, A k → ¬ S k) : Sns w' A v l :=
  SlV.mono h (fun _ h => h) fun b o x hb ⟨cs, h1, h2, h3⟩ => ⟨cs, h1, h2, fun j hj => by
    have hc := h3 j hj
    rw [List.getElem?_eq_getElem (by omega)] at hc ⊢
    exact hk.cell (hA b hb) hc⟩
theorem Sns.ext (h : Sns w A v l) (hk : Ext w w') : Sns w' A v l := h.keeps hk fun _ _ => noB _
theorem Sns.len (h : Sns w A v l) : ∃ a c, v = .slice a l.length c := by
  rcases h with ⟨a, rfl, rfl⟩ | ⟨b, o, c, rfl, _⟩
  · exact ⟨_, _, rfl⟩
  · exact ⟨_, _, rfl⟩
theorem Sns.at {a : Option Addr} {c : Nat} (h : Sns w A (.slice a l.length c) l) (k : Nat) (hk : k < l.length) : ∃ g o, a = some ⟨g, o, none⟩ ∧ A g ∧ OkS l[k] ∧ ∀ j, j < 7 → w.cell? ⟨g, o + k * 7 + j, none⟩ = (l[k].cells)[j]? := by
  rcases h with ⟨a', h1, rfl⟩ | ⟨b, o, c', h1, h2, h3, h4⟩
  · simp at hk
  · cases h1
    obtain ⟨cs, ⟨rfl, h5⟩, h6, h7⟩ := h4 k hk
    exact ⟨b, o, rfl, h3, h5, h7⟩
theorem Sns.ok (h : Sns w A v l) : ∀ x ∈ l, OkS x := by
  intro x hx
  obtain ⟨k, hk, rfl⟩ := List.getElem_of_mem hx
  obtain ⟨a, c, rfl⟩ := h.len
  obtain ⟨_, _, _, _, h5, _⟩ := h.at k hk
  exact h5
end
theorem i64_of {n : Int} (h : (Lit.int .i64 n).wf = true) : I64 n := by
  unfold I64
  simp [Lit.wf, IntKind.min, IntKind.max, IntKind.signed, IntKind.bits] at h
  omega
/-- does a list hold few things, of short texts? -/
def fewB (l : List Sn) (most : Int) : Bool := l.all (fun x => decide (x.e.text.length ≤ 300)) && decide ((l.length : Int) ≤ most)
theorem fewB_text {l : List Sn} {most : Int} (h : fewB l most = true) : (∀ x ∈ l, x.e.text.length ≤ 300) ∧ (l.length : Int) ≤ most := by
  unfold fewB at h
  rw [Bool.and_eq_true, List.all_eq_true] at h
  exact ⟨fun x hx => of_decide_eq_true (h.1 x hx), of_decide_eq_true h.2⟩
theorem few_any {A : Nat → Prop} (w : World) (v : Value) (l : List Sn) (most : Int) (h : Sns w A v l) (hl : l.length ≤ 9223372036854775807) (hA : ∀ k, A k → k < w.heap.size) :
    Calls Tryd.prog 10 #[v, .int .i64 most] w fun r w' => r = .returned (.bool (fewB l most)) ∧ w' = w := by
  obtain ⟨a, c, rfl⟩ := h.len
  have HS := Lib.hid h
  have HL := Lib.hid hl
  have HA := Lib.hid hA
  clear h hl hA
  go_enter Tryd.func10, Tryd.ntmps10
  go_wp2_with fail
  go_loop [5] (fun i => ∃ k : Nat, k ≤ l.length ∧ i = .int .i64 k ∧ Hid (∀ j (hj : j < l.length), j < k → l[j].e.text.length ≤ 300)) (fun i => l.length - (intOf i).toNat)
  case atStart => exact ⟨0, Nat.zero_le _, rfl, Lib.hid fun j _ h => absurd h (by omega)⟩
  case round =>
    obtain ⟨k, hk, rfl, HP⟩ := hrel
    by_cases hlt : k < l.length
    · obtain ⟨g, o, rfl, hg, -, hx⟩ := HS.out.at k hlt
      have hgl := HA.out g hg
      have d6 : w.cell? ⟨g, o + k * 7 + 3 + 3, none⟩ = some (.string (bs l[k].e.text)) := hx 6 (by decide)
      obtain ⟨t, ht⟩ : ∃ t, l[k].e.text = t := ⟨_, rfl⟩
      rw [ht] at d6
      have HT := Lib.hid ht
      have hsz := bs_size t
      have g1 : (k : Int) < (l.length : Int) := by omega
      have g2 : ¬ (k : Int) < 0 := by omega
      have g3 : (k : Int) < 9223372036854775807 := by have := HL.out; omega
      have HK := Lib.hid hlt
      clear hg hx ht
      by_cases h3 : t.length ≤ 300
      · have g4 : ¬ (300 : Int) < (t.length : Int) := by omega
        have H3 := Lib.hid h3
        clear h3
        go_wp2_with fail
        go_round
        case rel => exact ⟨k + 1, by omega, by go_num, Lib.hid fun j hj h => by
          by_cases e : j = k
          · subst e; rw [HT.out]; exact H3.out
          · exact HP.out j hj (by omega)⟩
        case measure => simp [intOf]; omega
      · have g4 : (300 : Int) < (t.length : Int) := by omega
        have HQ : Hid (fewB l most = false) := Lib.hid (by
          cases hb : fewB l most
          · rfl
          · have := (fewB_text hb).1 _ (List.getElem_mem hlt)
            rw [HT.out] at this
            exact absurd this h3)
        clear h3
        go_wp2_with fail
        go_ret
        exact ⟨by rw [HQ.out]; rfl, rfl⟩
    · obtain rfl : k = l.length := by omega
      have HQ : Hid (fewB l most = decide ((l.length : Int) ≤ most)) := Lib.hid (by
        unfold fewB
        rw [show l.all (fun x => decide (x.e.text.length ≤ 300)) = true from List.all_eq_true.2 fun x hx => by
          obtain ⟨j, hj, rfl⟩ := List.getElem_of_mem hx
          exact decide_eq_true (HP.out j hj hj), Bool.true_and])
      clear hlt hk
      go_wp2_with fail
      go_ret
      exact ⟨by rw [HQ.out]; rfl, rfl⟩
/-- the document's judge, as a thing in memory -/
def refR (cs : List Value) (J : JA) : Res := anyR (fun F w => RefAt w F J cs ∧ ∀ k, F k → k < w.heap.size) (fun h hk hs => ⟨h.1.keeps hk hs, fun k hF => Nat.lt_of_lt_of_le (h.2 k hF) hk.size⟩) (fun h => h.2)
theorem refR_tag {cs : List Value} {J : JA} : (refR cs J).tag = none := rfl
theorem RefAt.trim {w : World} {A : Nat → Prop} {J : JA} {cs : List Value} (h : RefAt w A J cs) : RefAt w (fun k => A k ∧ k < w.heap.size) J cs :=
  let ⟨vl, vp, h1, h2, h3, h4, h5, h6⟩ := h
  ⟨vl, vp, h1, h2, fun k hk => ⟨h3 k hk, (Win.block h2 k hk).2⟩, h4, fun k hk => ⟨h5 k hk, (Win.block h4 k hk).2⟩, h6⟩
theorem RefAt.upd {w w' : World} {A : Nat → Prop} {J : JA} {cs : List Value} (h : RefAt w' (fun k => A k ∨ w.heap.size ≤ k) J cs) (e : Ext w w') : Upd A w w' (refR cs J) :=
  ⟨_, ⟨h.trim, fun k hk => hk.2⟩, e.keeps, fun k hk => hk.1⟩
/-- told a list of things -/
def sees (J : JA) (l : List Sn) : JA := l.foldl (fun J x => (seeR J x).1) J
theorem sees_snoc (J : JA) (l : List Sn) (x : Sn) : sees J (l ++ [x]) = (seeR (sees J l) x).1 := by unfold sees; rw [List.foldl_append]; rfl
theorem sees_ok : ∀ (l : List Sn) (J : JA), OkJ J → J.T.Ok → OkJ (sees J l) ∧ (sees J l).T.Ok ∧ (sees J l).put.length ≤ J.put.length + l.length
  | [], J, hJ, hT => ⟨hJ, hT, Nat.le_refl _⟩
  | x :: l, J, hJ, hT => by
    have h4 := seeR_st J x hT
    obtain ⟨h1, h2, h3⟩ := sees_ok l (seeR J x).1 (hJ.see x) h4.1
    exact ⟨h1, h2, by have := h4.2; simp only [List.length_cons]; exact Nat.le_trans h3 (by omega)⟩
theorem Mem.postM {Fe : Fence} {n : Nat} {P : Program} {fn : Func} {R : Ending → World → Prop} {e : Exit} {a : Act} {F : Nat → Prop} {w0 w' : World} {L : List Res} (h : Mem F w0 w' L) (k : ∀ w, Mem F w0 w L → bodyPostM Fe n P fn R e a w) : bodyPostM Fe n P fn R e a w' := k _ h
theorem sns_one {w : World} {b : Nat} {t : TypeId} {x : Sn} (h : Box w b t x.cells) (hx : OkS x) : Sns w (fun k => k = b) (.slice (some ⟨b, 0, none⟩) 1 1) [x] :=
  .inr ⟨b, 0, 1, rfl, Nat.le_refl _, rfl, fun i hi => by
    obtain rfl : i = 0 := by simp at hi; omega
    exact ⟨x.cells, ⟨rfl, hx⟩, rfl, fun j hj => by rw [Nat.zero_mul, Nat.zero_add]; exact h.reads.1 j⟩⟩
theorem exec_load_wide {P : Program} {o : Oper} {a : Act} {w w0 : World} {F : Nat → Prop} {L L' : List Res} (ty : TypeId) {d : TypeDesc} {b : Nat} {t : TypeId} {cs : List Value} (x : Operand) (ho : o.op = .load ty x) (hx : a.eval x = .pointer (some ⟨b, 0, none⟩)) (h : Mem F w0 w L) (p : Pick L (cellsR b t cs) L')
    (hu : P.underlying ty = some d) (hd : (match d with | .struct _ | .array _ _ => true | _ => false) = true) (hi : (P.info? ty).map (·.size) = some cs.length) : (execOp a.eval o).run P w = .ok (.value (.agg cs.toArray)) w := by
  have := loadVar_wide ty h p hu hd hi
  simp [execOp, ho, hx, Instr.loadAt, Instr.sureAddr, Sem.run_bind, Result.andThen, this]
theorem seq_nil2 (w : World) (p : Option Addr) : (binOp .eql 55 (.func (.func 33) #[] #[.pointer p]) .nilFunc).run Tryd.prog w = .ok (.bool false) w := by kernel_rfl
/-- a sequence over a talk's copy -/
def SeqP (q b : Nat) (T : TA) (F : Nat → Prop) (w : World) : Prop := ∃ F' : Nat → Prop, (∀ k, F k ↔ k = q ∨ F' k) ∧ Box w q 63 [.pointer (some ⟨b, 0, none⟩)] ∧ TalkX w F' b T
theorem SeqP.keeps {q b : Nat} {T : TA} {F S : Nat → Prop} {w w' : World} (h : SeqP q b T F w) (hk : Keeps S w w') (hs : ∀ k, F k → ¬ S k) : SeqP q b T F w' := by
  obtain ⟨F', h1, h2, h3⟩ := h
  exact ⟨F', h1, h2.keeps hk (hs q ((h1 q).2 (.inl rfl))), h3.keeps hk fun k hF => hs k ((h1 k).2 (.inr hF))⟩
theorem SeqP.lt {q b : Nat} {T : TA} {F : Nat → Prop} {w : World} (h : SeqP q b T F w) (k : Nat) (hk : F k) : k < w.heap.size := by
  obtain ⟨F', h1, h2, v, h3⟩ := h
  rcases (h1 k).1 hk with rfl | hk
  · exact h2.lt
  · exact h3.lt k hk
def seqR (q b : Nat) (T : TA) : Res := anyR (SeqP q b T) (fun h hk hs => h.keeps hk hs) (fun h => h.lt)
theorem seqR_tag {q b : Nat} {T : TA} : (seqR q b T).tag = none := rfl
/-- things that lie apart, as one -/
def sepR (L : List Res) : Res := anyR (fun F w => SepL L F w) (fun h hk hs => SepL.keeps h hk hs) (fun h => SepL.lt h)
theorem sepR_tag {L : List Res} : (sepR L).tag = none := rfl
theorem Mem.openSep {F : Nat → Prop} {w0 w : World} {L L1 : List Res} (h : Mem F w0 w (sepR L1 :: L)) : Mem F w0 w (L1 ++ L) := h.open fun A hA => ⟨A, hA, fun _ h => h⟩
theorem Mem.openSep2 {F : Nat → Prop} {w0 w : World} {L : List Res} {r1 r2 : Res} (h : Mem F w0 w (sepR [r1, r2] :: L)) : Mem F w0 w (r1 :: r2 :: L) := h.openSep
/-- the mark of a range -/
def markR (D : Nat) : Res := anyR (fun F w => (∀ k, F k ↔ k = D) ∧ Mark w D) (fun h hk hs => ⟨h.1, h.2.keeps hk (hs D ((h.1 D).2 rfl))⟩) (fun h k hk => by rw [(h.1 k).1 hk]; exact h.2.lt)
theorem markR_tag {D : Nat} : (markR D).tag = none := rfl
theorem upd_mark {A0 : Nat → Prop} {w w' : World} {nb : Nat} {v : Value} (hA : ∀ k, A0 k ↔ k = nb) (hb : Box w' nb 3 [v]) (hm : Mark w' w.heap.size) (hk : Keeps (OneB nb) w w') (hn : nb < w.heap.size) : Upd A0 w w' (sepR [cellsR nb 3 [v], markR w.heap.size]) :=
  ⟨fun k => k = nb ∨ k = w.heap.size, ⟨fun k => k = nb, fun k => k = w.heap.size, ⟨fun _ => Iff.rfl, hb⟩, ⟨fun k => k = w.heap.size, fun _ => False, ⟨fun _ => Iff.rfl, hm⟩, fun _ h => h, fun _ _ h => h, fun k => ⟨.inl, fun h => h.resolve_right id⟩⟩, fun k h1 h2 => by omega, fun _ => Iff.rfl⟩,
    hk.mono (fun i _ h => (hA i).2 h), fun k hk => by rcases hk with hk | hk; exact .inl ((hA k).2 hk); exact .inr (by omega)⟩
theorem Mem.apart {F : Nat → Prop} {w0 w : World} {L L1 L2 : List Res} {r r' : Res} (h : Mem F w0 w L) (p : Pick L r L1) (p2 : Pick L1 r' L2) : ∃ A B, r.p A w ∧ r'.p B w ∧ ∀ k, A k → ¬ B k := by
  obtain ⟨_, G, ⟨A, B, h1, h2, h3, h4⟩, _⟩ := h.pick p
  obtain ⟨C, D, g1, g2, g3, g4⟩ := p2.sep h2
  exact ⟨A, C, h1, g1, fun k hA hC => h3 k hA ((g4 k).2 (.inl hC))⟩
end Go.Proofs.YthhdgjofagdjeaaDoor
end
