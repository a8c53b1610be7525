/- Texts VF, one behind the other. Conditions: as each says. -/
import Derived.Test.YthhdgjofagdjeaaDoorPkM
section
/- The document's judge: may something be seen? Condition: the judge reads as 'RefAt' says; the entry's text has at most 500000 bytes. -/
set_option linter.unusedVariables false
set_option linter.unusedSimpArgs false
set_option maxHeartbeats 4000000
set_option maxRecDepth 100000
namespace Go.Proofs.YthhdgjofagdjeaaDoor
open Go.RowKit Go.Shelf
theorem mayE_none {J : JA} {x : Sn} (h : ¬ (1 ≤ x.kind ∧ x.kind ≤ 6)) : mayE J x = 2 := by
  unfold mayE kindF
  rw [if_neg (by omega), if_neg (by omega), if_neg (by omega), if_neg (by omega), if_neg (by omega), if_neg (by omega)]
theorem rmay_1 {A : Nat → Prop} (w : World) (J : JA) (cs : List Value) (who index : Int) (e : En) (h : RefAt w A J cs) (ht : e.text.length ≤ 500000) :
    Calls Tryd.prog 23 #[.agg cs.toArray, (⟨1, who, index, e⟩ : Sn).v] w fun r w' => r = .returned (.int .i64 (mayE J ⟨1, who, index, e⟩)) ∧ Ext w w' := by
  have HT := Lib.hid ht
  clear ht
  obtain ⟨al, cl, ap, cp, hlen, hone, c0, c1, -, -, -, -, -, -, -, -⟩ := h.open
  have HLEN := Lib.hid hlen
  have HONE := Lib.hid hone
  have HM := Lib.hid (Mem.start0 w)
  clear h hlen hone
  unfold Sn.v
  dsimp only
  have HK : Hid (mayE J ⟨1, who, index, e⟩ = if index < 0 ∨ (e.kind = 1 ∨ enB e = false) then 2 else if who < 0 ∨ J.m ≤ who then 4 else 0) := Lib.hid (by simp [mayE, kindF])
  by_cases hi : index < 0
  · have HQ : Hid (mayE J ⟨1, who, index, e⟩ = 2) := Lib.hid (by rw [HK.out, if_pos (.inl hi)])
    clear HK
    go_enter Tryd.func23, Tryd.ntmps23
    have fM := HM.out.facts
    simp only [seeS, talkR_tag, rowR_tag] at fM
    go_wp2_with (first
      | ((with_reducible refine at_list ?_); first
        | ((with_reducible refine at_load 49 _ rfl ?_); refine mem_load_wide 49 _ rfl rfl rfl (by with_reducible repeat first | exact HM.out | exact ph | apply pt | apply Mem.drew | apply Mem.alloc | apply Mem.set | apply Mem.allocO | (simp only [World.size_alloc, World.size_setCell, World.size_drew]; rfl) | rfl) (by with_reducible repeat first | exact ph | apply pt) Tryd.underlying49 rfl (infoRJ.trans (congrArg some (Eq.symm (by first | rfl | exact HLEN.out | exact HLEN1.out | (simp only [List.length_set]; first | exact HLEN.out | exact HLEN1.out))))) ?_)
        | ((first
          | ((with_reducible refine at_store 49 _ _ rfl ?_); refine mem_store_wide 49 _ _ rfl rfl rfl rfl (by with_reducible repeat first | exact HM.out | exact ph | apply pt | apply Mem.drew | apply Mem.alloc | apply Mem.set | apply Mem.allocO | (simp only [World.size_alloc, World.size_setCell, World.size_drew]; rfl) | rfl) (by with_reducible repeat first | exact ph | apply pt) infoRJ (by first | rfl | exact HLEN.out | exact HLEN1.out | (simp only [List.length_set]; first | exact HLEN.out | exact HLEN1.out)) (by first | rfl | exact HLEN.out | exact HLEN1.out | (simp only [List.length_set]; first | exact HLEN.out | exact HLEN1.out)) (by (repeat refine one_set ?_ rfl _); first | exact HONE.out | exact HONE1.out) ?_; intro w9 M)
          | ((with_reducible refine at_box 49 _ rfl ?_); refine mem_box_wide 49 _ rfl rfl rfl (by with_reducible repeat first | exact HM.out | exact ph | apply pt | apply Mem.drew | apply Mem.alloc | apply Mem.set | apply Mem.allocO | (simp only [World.size_alloc, World.size_setCell, World.size_drew]; rfl) | rfl) ?_; intro w9 n9 M)
          | ((with_reducible refine at_alloc 49 rfl ?_); refine mem_alloc_wide 49 rfl rfl (zeroRJ _) (by with_reducible repeat first | exact HM.out | exact ph | apply pt | apply Mem.drew | apply Mem.alloc | apply Mem.set | apply Mem.allocO | (simp only [World.size_alloc, World.size_setCell, World.size_drew]; rfl) | rfl) ?_; intro w9 n9 M)); (try simp only [List.set_cons_zero, List.set_cons_succ] at M); replace HM := Lib.hid M; clear M; clear fM; have fM := HM.out.facts; simp only [seeS, talkR_tag, rowR_tag] at fM)))
    all_goals clear fM
    go_ret
    refine ⟨?_, ?_⟩
    rotate_left
    · apply Mem.extTo
      with_reducible repeat first | exact HM.out | exact ph | apply pt | apply Mem.drew | apply Mem.alloc | apply Mem.set | apply Mem.allocO | (simp only [World.size_alloc, World.size_setCell, World.size_drew]; rfl) | rfl
    rw [HQ.out]
    rfl
  have HEV := Lib.hid (show e.v = .agg #[.int .i64 e.kind, .int .i64 e.member, .int .i64 e.number, .string (bs e.text)] from rfl)
  have HI := Lib.hid hi
  go_enter Tryd.func23, Tryd.ntmps23
  have fM := HM.out.facts
  simp only [seeS, talkR_tag, rowR_tag] at fM
  go_wp2_with (first
    | ((with_reducible refine at_list ?_); first
      | ((with_reducible refine at_load 49 _ rfl ?_); refine mem_load_wide 49 _ rfl rfl rfl (by with_reducible repeat first | exact HM.out | exact ph | apply pt | apply Mem.drew | apply Mem.alloc | apply Mem.set | apply Mem.allocO | (simp only [World.size_alloc, World.size_setCell, World.size_drew]; rfl) | rfl) (by with_reducible repeat first | exact ph | apply pt) Tryd.underlying49 rfl (infoRJ.trans (congrArg some (Eq.symm (by first | rfl | exact HLEN.out | exact HLEN1.out | (simp only [List.length_set]; first | exact HLEN.out | exact HLEN1.out))))) ?_)
      | ((first
        | ((with_reducible refine at_store 49 _ _ rfl ?_); refine mem_store_wide 49 _ _ rfl rfl rfl rfl (by with_reducible repeat first | exact HM.out | exact ph | apply pt | apply Mem.drew | apply Mem.alloc | apply Mem.set | apply Mem.allocO | (simp only [World.size_alloc, World.size_setCell, World.size_drew]; rfl) | rfl) (by with_reducible repeat first | exact ph | apply pt) infoRJ (by first | rfl | exact HLEN.out | exact HLEN1.out | (simp only [List.length_set]; first | exact HLEN.out | exact HLEN1.out)) (by first | rfl | exact HLEN.out | exact HLEN1.out | (simp only [List.length_set]; first | exact HLEN.out | exact HLEN1.out)) (by (repeat refine one_set ?_ rfl _); first | exact HONE.out | exact HONE1.out) ?_; intro w9 M)
        | ((with_reducible refine at_box 49 _ rfl ?_); refine mem_box_wide 49 _ rfl rfl rfl (by with_reducible repeat first | exact HM.out | exact ph | apply pt | apply Mem.drew | apply Mem.alloc | apply Mem.set | apply Mem.allocO | (simp only [World.size_alloc, World.size_setCell, World.size_drew]; rfl) | rfl) ?_; intro w9 n9 M)
        | ((with_reducible refine at_alloc 49 rfl ?_); refine mem_alloc_wide 49 rfl rfl (zeroRJ _) (by with_reducible repeat first | exact HM.out | exact ph | apply pt | apply Mem.drew | apply Mem.alloc | apply Mem.set | apply Mem.allocO | (simp only [World.size_alloc, World.size_setCell, World.size_drew]; rfl) | rfl) ?_; intro w9 n9 M)); (try simp only [List.set_cons_zero, List.set_cons_succ] at M); replace HM := Lib.hid M; clear M; clear fM; have fM := HM.out.facts; simp only [seeS, talkR_tag, rowR_tag] at fM)))
  all_goals clear fM
  first | apply Mem.call | apply Mem.postD | apply Mem.stop | apply Mem.toUpd | apply Mem.list | apply Mem.code | apply Mem.post | apply Mem.postM
  · with_reducible repeat first | exact HM.out | exact ph | apply pt | apply Mem.drew | apply Mem.alloc | apply Mem.set | apply Mem.allocO | (simp only [World.size_alloc, World.size_setCell, World.size_drew]; rfl) | rfl
  intro w0 M
  try simp only [List.set_cons_zero, List.set_cons_succ] at M
  replace HM := Lib.hid M
  clear M
  rw [← HEV.out]
  refine (entry14_any w0 e HT.out).mono ?_
  rintro r w1 ⟨rfl, hE⟩
  replace HM := Lib.hid (HM.out.ext hE)
  clear hE hi
  have hi : ¬ index < 0 := by have := HI.out; omega
  cases hb : enB e
  · have HQ : Hid (mayE J ⟨1, who, index, e⟩ = 2) := Lib.hid (by rw [HK.out, if_pos (.inr (.inr hb))])
    clear HK hb
    have fM := HM.out.facts
    simp only [seeS, talkR_tag, rowR_tag] at fM
    go_wp2_with (first
      | ((with_reducible refine at_list ?_); first
        | ((with_reducible refine at_load 49 _ rfl ?_); refine mem_load_wide 49 _ rfl rfl rfl (by with_reducible repeat first | exact HM.out | exact ph | apply pt | apply Mem.drew | apply Mem.alloc | apply Mem.set | apply Mem.allocO | (simp only [World.size_alloc, World.size_setCell, World.size_drew]; rfl) | rfl) (by with_reducible repeat first | exact ph | apply pt) Tryd.underlying49 rfl (infoRJ.trans (congrArg some (Eq.symm (by first | rfl | exact HLEN.out | exact HLEN1.out | (simp only [List.length_set]; first | exact HLEN.out | exact HLEN1.out))))) ?_)
        | ((first
          | ((with_reducible refine at_store 49 _ _ rfl ?_); refine mem_store_wide 49 _ _ rfl rfl rfl rfl (by with_reducible repeat first | exact HM.out | exact ph | apply pt | apply Mem.drew | apply Mem.alloc | apply Mem.set | apply Mem.allocO | (simp only [World.size_alloc, World.size_setCell, World.size_drew]; rfl) | rfl) (by with_reducible repeat first | exact ph | apply pt) infoRJ (by first | rfl | exact HLEN.out | exact HLEN1.out | (simp only [List.length_set]; first | exact HLEN.out | exact HLEN1.out)) (by first | rfl | exact HLEN.out | exact HLEN1.out | (simp only [List.length_set]; first | exact HLEN.out | exact HLEN1.out)) (by (repeat refine one_set ?_ rfl _); first | exact HONE.out | exact HONE1.out) ?_; intro w9 M)
          | ((with_reducible refine at_box 49 _ rfl ?_); refine mem_box_wide 49 _ rfl rfl rfl (by with_reducible repeat first | exact HM.out | exact ph | apply pt | apply Mem.drew | apply Mem.alloc | apply Mem.set | apply Mem.allocO | (simp only [World.size_alloc, World.size_setCell, World.size_drew]; rfl) | rfl) ?_; intro w9 n9 M)
          | ((with_reducible refine at_alloc 49 rfl ?_); refine mem_alloc_wide 49 rfl rfl (zeroRJ _) (by with_reducible repeat first | exact HM.out | exact ph | apply pt | apply Mem.drew | apply Mem.alloc | apply Mem.set | apply Mem.allocO | (simp only [World.size_alloc, World.size_setCell, World.size_drew]; rfl) | rfl) ?_; intro w9 n9 M)); (try simp only [List.set_cons_zero, List.set_cons_succ] at M); replace HM := Lib.hid M; clear M; clear fM; have fM := HM.out.facts; simp only [seeS, talkR_tag, rowR_tag] at fM)))
    all_goals clear fM
    go_ret
    refine ⟨?_, ?_⟩
    rotate_left
    · apply Mem.extTo
      with_reducible repeat first | exact HM.out | exact ph | apply pt | apply Mem.drew | apply Mem.alloc | apply Mem.set | apply Mem.allocO | (simp only [World.size_alloc, World.size_setCell, World.size_drew]; rfl) | rfl
    rw [HQ.out]
    rfl
  by_cases hk : e.kind = 1
  · have HQ : Hid (mayE J ⟨1, who, index, e⟩ = 2) := Lib.hid (by rw [HK.out, if_pos (.inr (.inl hk))])
    clear HK hb
    have fM := HM.out.facts
    simp only [seeS, talkR_tag, rowR_tag] at fM
    go_wp2_with (first
      | ((with_reducible refine at_list ?_); first
        | ((with_reducible refine at_load 49 _ rfl ?_); refine mem_load_wide 49 _ rfl rfl rfl (by with_reducible repeat first | exact HM.out | exact ph | apply pt | apply Mem.drew | apply Mem.alloc | apply Mem.set | apply Mem.allocO | (simp only [World.size_alloc, World.size_setCell, World.size_drew]; rfl) | rfl) (by with_reducible repeat first | exact ph | apply pt) Tryd.underlying49 rfl (infoRJ.trans (congrArg some (Eq.symm (by first | rfl | exact HLEN.out | exact HLEN1.out | (simp only [List.length_set]; first | exact HLEN.out | exact HLEN1.out))))) ?_)
        | ((first
          | ((with_reducible refine at_store 49 _ _ rfl ?_); refine mem_store_wide 49 _ _ rfl rfl rfl rfl (by with_reducible repeat first | exact HM.out | exact ph | apply pt | apply Mem.drew | apply Mem.alloc | apply Mem.set | apply Mem.allocO | (simp only [World.size_alloc, World.size_setCell, World.size_drew]; rfl) | rfl) (by with_reducible repeat first | exact ph | apply pt) infoRJ (by first | rfl | exact HLEN.out | exact HLEN1.out | (simp only [List.length_set]; first | exact HLEN.out | exact HLEN1.out)) (by first | rfl | exact HLEN.out | exact HLEN1.out | (simp only [List.length_set]; first | exact HLEN.out | exact HLEN1.out)) (by (repeat refine one_set ?_ rfl _); first | exact HONE.out | exact HONE1.out) ?_; intro w9 M)
          | ((with_reducible refine at_box 49 _ rfl ?_); refine mem_box_wide 49 _ rfl rfl rfl (by with_reducible repeat first | exact HM.out | exact ph | apply pt | apply Mem.drew | apply Mem.alloc | apply Mem.set | apply Mem.allocO | (simp only [World.size_alloc, World.size_setCell, World.size_drew]; rfl) | rfl) ?_; intro w9 n9 M)
          | ((with_reducible refine at_alloc 49 rfl ?_); refine mem_alloc_wide 49 rfl rfl (zeroRJ _) (by with_reducible repeat first | exact HM.out | exact ph | apply pt | apply Mem.drew | apply Mem.alloc | apply Mem.set | apply Mem.allocO | (simp only [World.size_alloc, World.size_setCell, World.size_drew]; rfl) | rfl) ?_; intro w9 n9 M)); (try simp only [List.set_cons_zero, List.set_cons_succ] at M); replace HM := Lib.hid M; clear M; clear fM; have fM := HM.out.facts; simp only [seeS, talkR_tag, rowR_tag] at fM)))
    all_goals clear fM
    go_ret
    refine ⟨?_, ?_⟩
    rotate_left
    · apply Mem.extTo
      with_reducible repeat first | exact HM.out | exact ph | apply pt | apply Mem.drew | apply Mem.alloc | apply Mem.set | apply Mem.allocO | (simp only [World.size_alloc, World.size_setCell, World.size_drew]; rfl) | rfl
    rw [HQ.out]
    rfl
  have HNE : Hid (¬ (index < 0 ∨ (e.kind = 1 ∨ enB e = false))) := Lib.hid (fun h => by
    rcases h with h | h | h
    · exact hi h
    · exact hk h
    · rw [hb] at h; cases h)
  clear hb
  have hk' : (e.kind == 1) = false := by simpa using hk
  by_cases h3 : who < 0
  · have HQ : Hid (mayE J ⟨1, who, index, e⟩ = 4) := Lib.hid (by rw [HK.out, if_neg HNE.out, if_pos (.inl h3)])
    clear HK
    have fM := HM.out.facts
    simp only [seeS, talkR_tag, rowR_tag] at fM
    go_wp2_with (first
      | ((with_reducible refine at_list ?_); first
        | ((with_reducible refine at_load 49 _ rfl ?_); refine mem_load_wide 49 _ rfl rfl rfl (by with_reducible repeat first | exact HM.out | exact ph | apply pt | apply Mem.drew | apply Mem.alloc | apply Mem.set | apply Mem.allocO | (simp only [World.size_alloc, World.size_setCell, World.size_drew]; rfl) | rfl) (by with_reducible repeat first | exact ph | apply pt) Tryd.underlying49 rfl (infoRJ.trans (congrArg some (Eq.symm (by first | rfl | exact HLEN.out | exact HLEN1.out | (simp only [List.length_set]; first | exact HLEN.out | exact HLEN1.out))))) ?_)
        | ((first
          | ((with_reducible refine at_store 49 _ _ rfl ?_); refine mem_store_wide 49 _ _ rfl rfl rfl rfl (by with_reducible repeat first | exact HM.out | exact ph | apply pt | apply Mem.drew | apply Mem.alloc | apply Mem.set | apply Mem.allocO | (simp only [World.size_alloc, World.size_setCell, World.size_drew]; rfl) | rfl) (by with_reducible repeat first | exact ph | apply pt) infoRJ (by first | rfl | exact HLEN.out | exact HLEN1.out | (simp only [List.length_set]; first | exact HLEN.out | exact HLEN1.out)) (by first | rfl | exact HLEN.out | exact HLEN1.out | (simp only [List.length_set]; first | exact HLEN.out | exact HLEN1.out)) (by (repeat refine one_set ?_ rfl _); first | exact HONE.out | exact HONE1.out) ?_; intro w9 M)
          | ((with_reducible refine at_box 49 _ rfl ?_); refine mem_box_wide 49 _ rfl rfl rfl (by with_reducible repeat first | exact HM.out | exact ph | apply pt | apply Mem.drew | apply Mem.alloc | apply Mem.set | apply Mem.allocO | (simp only [World.size_alloc, World.size_setCell, World.size_drew]; rfl) | rfl) ?_; intro w9 n9 M)
          | ((with_reducible refine at_alloc 49 rfl ?_); refine mem_alloc_wide 49 rfl rfl (zeroRJ _) (by with_reducible repeat first | exact HM.out | exact ph | apply pt | apply Mem.drew | apply Mem.alloc | apply Mem.set | apply Mem.allocO | (simp only [World.size_alloc, World.size_setCell, World.size_drew]; rfl) | rfl) ?_; intro w9 n9 M)); (try simp only [List.set_cons_zero, List.set_cons_succ] at M); replace HM := Lib.hid M; clear M; clear fM; have fM := HM.out.facts; simp only [seeS, talkR_tag, rowR_tag] at fM)))
    all_goals clear fM
    go_ret
    refine ⟨?_, ?_⟩
    rotate_left
    · apply Mem.extTo
      with_reducible repeat first | exact HM.out | exact ph | apply pt | apply Mem.drew | apply Mem.alloc | apply Mem.set | apply Mem.allocO | (simp only [World.size_alloc, World.size_setCell, World.size_drew]; rfl) | rfl
    rw [HQ.out]
    rfl
  by_cases h4 : J.m ≤ who
  · have HQ : Hid (mayE J ⟨1, who, index, e⟩ = 4) := Lib.hid (by rw [HK.out, if_neg HNE.out, if_pos (.inr h4)])
    clear HK
    have fM := HM.out.facts
    simp only [seeS, talkR_tag, rowR_tag] at fM
    go_wp2_with (first
      | ((with_reducible refine at_list ?_); first
        | ((with_reducible refine at_load 49 _ rfl ?_); refine mem_load_wide 49 _ rfl rfl rfl (by with_reducible repeat first | exact HM.out | exact ph | apply pt | apply Mem.drew | apply Mem.alloc | apply Mem.set | apply Mem.allocO | (simp only [World.size_alloc, World.size_setCell, World.size_drew]; rfl) | rfl) (by with_reducible repeat first | exact ph | apply pt) Tryd.underlying49 rfl (infoRJ.trans (congrArg some (Eq.symm (by first | rfl | exact HLEN.out | exact HLEN1.out | (simp only [List.length_set]; first | exact HLEN.out | exact HLEN1.out))))) ?_)
        | ((first
          | ((with_reducible refine at_store 49 _ _ rfl ?_); refine mem_store_wide 49 _ _ rfl rfl rfl rfl (by with_reducible repeat first | exact HM.out | exact ph | apply pt | apply Mem.drew | apply Mem.alloc | apply Mem.set | apply Mem.allocO | (simp only [World.size_alloc, World.size_setCell, World.size_drew]; rfl) | rfl) (by with_reducible repeat first | exact ph | apply pt) infoRJ (by first | rfl | exact HLEN.out | exact HLEN1.out | (simp only [List.length_set]; first | exact HLEN.out | exact HLEN1.out)) (by first | rfl | exact HLEN.out | exact HLEN1.out | (simp only [List.length_set]; first | exact HLEN.out | exact HLEN1.out)) (by (repeat refine one_set ?_ rfl _); first | exact HONE.out | exact HONE1.out) ?_; intro w9 M)
          | ((with_reducible refine at_box 49 _ rfl ?_); refine mem_box_wide 49 _ rfl rfl rfl (by with_reducible repeat first | exact HM.out | exact ph | apply pt | apply Mem.drew | apply Mem.alloc | apply Mem.set | apply Mem.allocO | (simp only [World.size_alloc, World.size_setCell, World.size_drew]; rfl) | rfl) ?_; intro w9 n9 M)
          | ((with_reducible refine at_alloc 49 rfl ?_); refine mem_alloc_wide 49 rfl rfl (zeroRJ _) (by with_reducible repeat first | exact HM.out | exact ph | apply pt | apply Mem.drew | apply Mem.alloc | apply Mem.set | apply Mem.allocO | (simp only [World.size_alloc, World.size_setCell, World.size_drew]; rfl) | rfl) ?_; intro w9 n9 M)); (try simp only [List.set_cons_zero, List.set_cons_succ] at M); replace HM := Lib.hid M; clear M; clear fM; have fM := HM.out.facts; simp only [seeS, talkR_tag, rowR_tag] at fM)))
    all_goals clear fM
    go_ret
    refine ⟨?_, ?_⟩
    rotate_left
    · apply Mem.extTo
      with_reducible repeat first | exact HM.out | exact ph | apply pt | apply Mem.drew | apply Mem.alloc | apply Mem.set | apply Mem.allocO | (simp only [World.size_alloc, World.size_setCell, World.size_drew]; rfl) | rfl
    rw [HQ.out]
    rfl
  · have HQ : Hid (mayE J ⟨1, who, index, e⟩ = 0) := Lib.hid (by rw [HK.out, if_neg HNE.out, if_neg (fun h => by rcases h with h | h; exact h3 h; exact h4 h)])
    clear HK
    have fM := HM.out.facts
    simp only [seeS, talkR_tag, rowR_tag] at fM
    go_wp2_with (first
      | ((with_reducible refine at_list ?_); first
        | ((with_reducible refine at_load 49 _ rfl ?_); refine mem_load_wide 49 _ rfl rfl rfl (by with_reducible repeat first | exact HM.out | exact ph | apply pt | apply Mem.drew | apply Mem.alloc | apply Mem.set | apply Mem.allocO | (simp only [World.size_alloc, World.size_setCell, World.size_drew]; rfl) | rfl) (by with_reducible repeat first | exact ph | apply pt) Tryd.underlying49 rfl (infoRJ.trans (congrArg some (Eq.symm (by first | rfl | exact HLEN.out | exact HLEN1.out | (simp only [List.length_set]; first | exact HLEN.out | exact HLEN1.out))))) ?_)
        | ((first
          | ((with_reducible refine at_store 49 _ _ rfl ?_); refine mem_store_wide 49 _ _ rfl rfl rfl rfl (by with_reducible repeat first | exact HM.out | exact ph | apply pt | apply Mem.drew | apply Mem.alloc | apply Mem.set | apply Mem.allocO | (simp only [World.size_alloc, World.size_setCell, World.size_drew]; rfl) | rfl) (by with_reducible repeat first | exact ph | apply pt) infoRJ (by first | rfl | exact HLEN.out | exact HLEN1.out | (simp only [List.length_set]; first | exact HLEN.out | exact HLEN1.out)) (by first | rfl | exact HLEN.out | exact HLEN1.out | (simp only [List.length_set]; first | exact HLEN.out | exact HLEN1.out)) (by (repeat refine one_set ?_ rfl _); first | exact HONE.out | exact HONE1.out) ?_; intro w9 M)
          | ((with_reducible refine at_box 49 _ rfl ?_); refine mem_box_wide 49 _ rfl rfl rfl (by with_reducible repeat first | exact HM.out | exact ph | apply pt | apply Mem.drew | apply Mem.alloc | apply Mem.set | apply Mem.allocO | (simp only [World.size_alloc, World.size_setCell, World.size_drew]; rfl) | rfl) ?_; intro w9 n9 M)
          | ((with_reducible refine at_alloc 49 rfl ?_); refine mem_alloc_wide 49 rfl rfl (zeroRJ _) (by with_reducible repeat first | exact HM.out | exact ph | apply pt | apply Mem.drew | apply Mem.alloc | apply Mem.set | apply Mem.allocO | (simp only [World.size_alloc, World.size_setCell, World.size_drew]; rfl) | rfl) ?_; intro w9 n9 M)); (try simp only [List.set_cons_zero, List.set_cons_succ] at M); replace HM := Lib.hid M; clear M; clear fM; have fM := HM.out.facts; simp only [seeS, talkR_tag, rowR_tag] at fM)))
    all_goals clear fM
    go_ret
    refine ⟨?_, ?_⟩
    rotate_left
    · apply Mem.extTo
      with_reducible repeat first | exact HM.out | exact ph | apply pt | apply Mem.drew | apply Mem.alloc | apply Mem.set | apply Mem.allocO | (simp only [World.size_alloc, World.size_setCell, World.size_drew]; rfl) | rfl
    rw [HQ.out]
    rfl
theorem rmay_2 {A : Nat → Prop} (w : World) (J : JA) (cs : List Value) (who index : Int) (e : En) (h : RefAt w A J cs) (ht : e.text.length ≤ 500000) :
    Calls Tryd.prog 23 #[.agg cs.toArray, (⟨2, who, index, e⟩ : Sn).v] w fun r w' => r = .returned (.int .i64 (mayE J ⟨2, who, index, e⟩)) ∧ Ext w w' := by
  have HT := Lib.hid ht
  clear ht
  obtain ⟨al, cl, ap, cp, hlen, hone, c0, c1, -, -, -, -, -, -, -, -⟩ := h.open
  have HLEN := Lib.hid hlen
  have HONE := Lib.hid hone
  have HM := Lib.hid (Mem.start0 w)
  clear h hlen hone
  unfold Sn.v
  dsimp only
  have HK : Hid (mayE J ⟨2, who, index, e⟩ = if index < 0 ∨ (e.kind = 1 ∨ enB e = false) then 2 else if who < 0 ∨ J.n ≤ who then 4 else 0) := Lib.hid (by simp [mayE, kindF])
  by_cases hi : index < 0
  · have HQ : Hid (mayE J ⟨2, who, index, e⟩ = 2) := Lib.hid (by rw [HK.out, if_pos (.inl hi)])
    clear HK
    go_enter Tryd.func23, Tryd.ntmps23
    have fM := HM.out.facts
    simp only [seeS, talkR_tag, rowR_tag] at fM
    go_wp2_with (first
      | ((with_reducible refine at_list ?_); first
        | ((with_reducible refine at_load 49 _ rfl ?_); refine mem_load_wide 49 _ rfl rfl rfl (by with_reducible repeat first | exact HM.out | exact ph | apply pt | apply Mem.drew | apply Mem.alloc | apply Mem.set | apply Mem.allocO | (simp only [World.size_alloc, World.size_setCell, World.size_drew]; rfl) | rfl) (by with_reducible repeat first | exact ph | apply pt) Tryd.underlying49 rfl (infoRJ.trans (congrArg some (Eq.symm (by first | rfl | exact HLEN.out | exact HLEN1.out | (simp only [List.length_set]; first | exact HLEN.out | exact HLEN1.out))))) ?_)
        | ((first
          | ((with_reducible refine at_store 49 _ _ rfl ?_); refine mem_store_wide 49 _ _ rfl rfl rfl rfl (by with_reducible repeat first | exact HM.out | exact ph | apply pt | apply Mem.drew | apply Mem.alloc | apply Mem.set | apply Mem.allocO | (simp only [World.size_alloc, World.size_setCell, World.size_drew]; rfl) | rfl) (by with_reducible repeat first | exact ph | apply pt) infoRJ (by first | rfl | exact HLEN.out | exact HLEN1.out | (simp only [List.length_set]; first | exact HLEN.out | exact HLEN1.out)) (by first | rfl | exact HLEN.out | exact HLEN1.out | (simp only [List.length_set]; first | exact HLEN.out | exact HLEN1.out)) (by (repeat refine one_set ?_ rfl _); first | exact HONE.out | exact HONE1.out) ?_; intro w9 M)
          | ((with_reducible refine at_box 49 _ rfl ?_); refine mem_box_wide 49 _ rfl rfl rfl (by with_reducible repeat first | exact HM.out | exact ph | apply pt | apply Mem.drew | apply Mem.alloc | apply Mem.set | apply Mem.allocO | (simp only [World.size_alloc, World.size_setCell, World.size_drew]; rfl) | rfl) ?_; intro w9 n9 M)
          | ((with_reducible refine at_alloc 49 rfl ?_); refine mem_alloc_wide 49 rfl rfl (zeroRJ _) (by with_reducible repeat first | exact HM.out | exact ph | apply pt | apply Mem.drew | apply Mem.alloc | apply Mem.set | apply Mem.allocO | (simp only [World.size_alloc, World.size_setCell, World.size_drew]; rfl) | rfl) ?_; intro w9 n9 M)); (try simp only [List.set_cons_zero, List.set_cons_succ] at M); replace HM := Lib.hid M; clear M; clear fM; have fM := HM.out.facts; simp only [seeS, talkR_tag, rowR_tag] at fM)))
    all_goals clear fM
    go_ret
    refine ⟨?_, ?_⟩
    rotate_left
    · apply Mem.extTo
      with_reducible repeat first | exact HM.out | exact ph | apply pt | apply Mem.drew | apply Mem.alloc | apply Mem.set | apply Mem.allocO | (simp only [World.size_alloc, World.size_setCell, World.size_drew]; rfl) | rfl
    rw [HQ.out]
    rfl
  have HEV := Lib.hid (show e.v = .agg #[.int .i64 e.kind, .int .i64 e.member, .int .i64 e.number, .string (bs e.text)] from rfl)
  have HI := Lib.hid hi
  go_enter Tryd.func23, Tryd.ntmps23
  have fM := HM.out.facts
  simp only [seeS, talkR_tag, rowR_tag] at fM
  go_wp2_with (first
    | ((with_reducible refine at_list ?_); first
      | ((with_reducible refine at_load 49 _ rfl ?_); refine mem_load_wide 49 _ rfl rfl rfl (by with_reducible repeat first | exact HM.out | exact ph | apply pt | apply Mem.drew | apply Mem.alloc | apply Mem.set | apply Mem.allocO | (simp only [World.size_alloc, World.size_setCell, World.size_drew]; rfl) | rfl) (by with_reducible repeat first | exact ph | apply pt) Tryd.underlying49 rfl (infoRJ.trans (congrArg some (Eq.symm (by first | rfl | exact HLEN.out | exact HLEN1.out | (simp only [List.length_set]; first | exact HLEN.out | exact HLEN1.out))))) ?_)
      | ((first
        | ((with_reducible refine at_store 49 _ _ rfl ?_); refine mem_store_wide 49 _ _ rfl rfl rfl rfl (by with_reducible repeat first | exact HM.out | exact ph | apply pt | apply Mem.drew | apply Mem.alloc | apply Mem.set | apply Mem.allocO | (simp only [World.size_alloc, World.size_setCell, World.size_drew]; rfl) | rfl) (by with_reducible repeat first | exact ph | apply pt) infoRJ (by first | rfl | exact HLEN.out | exact HLEN1.out | (simp only [List.length_set]; first | exact HLEN.out | exact HLEN1.out)) (by first | rfl | exact HLEN.out | exact HLEN1.out | (simp only [List.length_set]; first | exact HLEN.out | exact HLEN1.out)) (by (repeat refine one_set ?_ rfl _); first | exact HONE.out | exact HONE1.out) ?_; intro w9 M)
        | ((with_reducible refine at_box 49 _ rfl ?_); refine mem_box_wide 49 _ rfl rfl rfl (by with_reducible repeat first | exact HM.out | exact ph | apply pt | apply Mem.drew | apply Mem.alloc | apply Mem.set | apply Mem.allocO | (simp only [World.size_alloc, World.size_setCell, World.size_drew]; rfl) | rfl) ?_; intro w9 n9 M)
        | ((with_reducible refine at_alloc 49 rfl ?_); refine mem_alloc_wide 49 rfl rfl (zeroRJ _) (by with_reducible repeat first | exact HM.out | exact ph | apply pt | apply Mem.drew | apply Mem.alloc | apply Mem.set | apply Mem.allocO | (simp only [World.size_alloc, World.size_setCell, World.size_drew]; rfl) | rfl) ?_; intro w9 n9 M)); (try simp only [List.set_cons_zero, List.set_cons_succ] at M); replace HM := Lib.hid M; clear M; clear fM; have fM := HM.out.facts; simp only [seeS, talkR_tag, rowR_tag] at fM)))
  all_goals clear fM
  first | apply Mem.call | apply Mem.postD | apply Mem.stop | apply Mem.toUpd | apply Mem.list | apply Mem.code | apply Mem.post | apply Mem.postM
  · with_reducible repeat first | exact HM.out | exact ph | apply pt | apply Mem.drew | apply Mem.alloc | apply Mem.set | apply Mem.allocO | (simp only [World.size_alloc, World.size_setCell, World.size_drew]; rfl) | rfl
  intro w0 M
  try simp only [List.set_cons_zero, List.set_cons_succ] at M
  replace HM := Lib.hid M
  clear M
  rw [← HEV.out]
  refine (entry14_any w0 e HT.out).mono ?_
  rintro r w1 ⟨rfl, hE⟩
  replace HM := Lib.hid (HM.out.ext hE)
  clear hE hi
  have hi : ¬ index < 0 := by have := HI.out; omega
  cases hb : enB e
  · have HQ : Hid (mayE J ⟨2, who, index, e⟩ = 2) := Lib.hid (by rw [HK.out, if_pos (.inr (.inr hb))])
    clear HK hb
    have fM := HM.out.facts
    simp only [seeS, talkR_tag, rowR_tag] at fM
    go_wp2_with (first
      | ((with_reducible refine at_list ?_); first
        | ((with_reducible refine at_load 49 _ rfl ?_); refine mem_load_wide 49 _ rfl rfl rfl (by with_reducible repeat first | exact HM.out | exact ph | apply pt | apply Mem.drew | apply Mem.alloc | apply Mem.set | apply Mem.allocO | (simp only [World.size_alloc, World.size_setCell, World.size_drew]; rfl) | rfl) (by with_reducible repeat first | exact ph | apply pt) Tryd.underlying49 rfl (infoRJ.trans (congrArg some (Eq.symm (by first | rfl | exact HLEN.out | exact HLEN1.out | (simp only [List.length_set]; first | exact HLEN.out | exact HLEN1.out))))) ?_)
        | ((first
          | ((with_reducible refine at_store 49 _ _ rfl ?_); refine mem_store_wide 49 _ _ rfl rfl rfl rfl (by with_reducible repeat first | exact HM.out | exact ph | apply pt | apply Mem.drew | apply Mem.alloc | apply Mem.set | apply Mem.allocO | (simp only [World.size_alloc, World.size_setCell, World.size_drew]; rfl) | rfl) (by with_reducible repeat first | exact ph | apply pt) infoRJ (by first | rfl | exact HLEN.out | exact HLEN1.out | (simp only [List.length_set]; first | exact HLEN.out | exact HLEN1.out)) (by first | rfl | exact HLEN.out | exact HLEN1.out | (simp only [List.length_set]; first | exact HLEN.out | exact HLEN1.out)) (by (repeat refine one_set ?_ rfl _); first | exact HONE.out | exact HONE1.out) ?_; intro w9 M)
          | ((with_reducible refine at_box 49 _ rfl ?_); refine mem_box_wide 49 _ rfl rfl rfl (by with_reducible repeat first | exact HM.out | exact ph | apply pt | apply Mem.drew | apply Mem.alloc | apply Mem.set | apply Mem.allocO | (simp only [World.size_alloc, World.size_setCell, World.size_drew]; rfl) | rfl) ?_; intro w9 n9 M)
          | ((with_reducible refine at_alloc 49 rfl ?_); refine mem_alloc_wide 49 rfl rfl (zeroRJ _) (by with_reducible repeat first | exact HM.out | exact ph | apply pt | apply Mem.drew | apply Mem.alloc | apply Mem.set | apply Mem.allocO | (simp only [World.size_alloc, World.size_setCell, World.size_drew]; rfl) | rfl) ?_; intro w9 n9 M)); (try simp only [List.set_cons_zero, List.set_cons_succ] at M); replace HM := Lib.hid M; clear M; clear fM; have fM := HM.out.facts; simp only [seeS, talkR_tag, rowR_tag] at fM)))
    all_goals clear fM
    go_ret
    refine ⟨?_, ?_⟩
    rotate_left
    · apply Mem.extTo
      with_reducible repeat first | exact HM.out | exact ph | apply pt | apply Mem.drew | apply Mem.alloc | apply Mem.set | apply Mem.allocO | (simp only [World.size_alloc, World.size_setCell, World.size_drew]; rfl) | rfl
    rw [HQ.out]
    rfl
  by_cases hk : e.kind = 1
  · have HQ : Hid (mayE J ⟨2, who, index, e⟩ = 2) := Lib.hid (by rw [HK.out, if_pos (.inr (.inl hk))])
    clear HK hb
    have fM := HM.out.facts
    simp only [seeS, talkR_tag, rowR_tag] at fM
    go_wp2_with (first
      | ((with_reducible refine at_list ?_); first
        | ((with_reducible refine at_load 49 _ rfl ?_); refine mem_load_wide 49 _ rfl rfl rfl (by with_reducible repeat first | exact HM.out | exact ph | apply pt | apply Mem.drew | apply Mem.alloc | apply Mem.set | apply Mem.allocO | (simp only [World.size_alloc, World.size_setCell, World.size_drew]; rfl) | rfl) (by with_reducible repeat first | exact ph | apply pt) Tryd.underlying49 rfl (infoRJ.trans (congrArg some (Eq.symm (by first | rfl | exact HLEN.out | exact HLEN1.out | (simp only [List.length_set]; first | exact HLEN.out | exact HLEN1.out))))) ?_)
        | ((first
          | ((with_reducible refine at_store 49 _ _ rfl ?_); refine mem_store_wide 49 _ _ rfl rfl rfl rfl (by with_reducible repeat first | exact HM.out | exact ph | apply pt | apply Mem.drew | apply Mem.alloc | apply Mem.set | apply Mem.allocO | (simp only [World.size_alloc, World.size_setCell, World.size_drew]; rfl) | rfl) (by with_reducible repeat first | exact ph | apply pt) infoRJ (by first | rfl | exact HLEN.out | exact HLEN1.out | (simp only [List.length_set]; first | exact HLEN.out | exact HLEN1.out)) (by first | rfl | exact HLEN.out | exact HLEN1.out | (simp only [List.length_set]; first | exact HLEN.out | exact HLEN1.out)) (by (repeat refine one_set ?_ rfl _); first | exact HONE.out | exact HONE1.out) ?_; intro w9 M)
          | ((with_reducible refine at_box 49 _ rfl ?_); refine mem_box_wide 49 _ rfl rfl rfl (by with_reducible repeat first | exact HM.out | exact ph | apply pt | apply Mem.drew | apply Mem.alloc | apply Mem.set | apply Mem.allocO | (simp only [World.size_alloc, World.size_setCell, World.size_drew]; rfl) | rfl) ?_; intro w9 n9 M)
          | ((with_reducible refine at_alloc 49 rfl ?_); refine mem_alloc_wide 49 rfl rfl (zeroRJ _) (by with_reducible repeat first | exact HM.out | exact ph | apply pt | apply Mem.drew | apply Mem.alloc | apply Mem.set | apply Mem.allocO | (simp only [World.size_alloc, World.size_setCell, World.size_drew]; rfl) | rfl) ?_; intro w9 n9 M)); (try simp only [List.set_cons_zero, List.set_cons_succ] at M); replace HM := Lib.hid M; clear M; clear fM; have fM := HM.out.facts; simp only [seeS, talkR_tag, rowR_tag] at fM)))
    all_goals clear fM
    go_ret
    refine ⟨?_, ?_⟩
    rotate_left
    · apply Mem.extTo
      with_reducible repeat first | exact HM.out | exact ph | apply pt | apply Mem.drew | apply Mem.alloc | apply Mem.set | apply Mem.allocO | (simp only [World.size_alloc, World.size_setCell, World.size_drew]; rfl) | rfl
    rw [HQ.out]
    rfl
  have HNE : Hid (¬ (index < 0 ∨ (e.kind = 1 ∨ enB e = false))) := Lib.hid (fun h => by
    rcases h with h | h | h
    · exact hi h
    · exact hk h
    · rw [hb] at h; cases h)
  clear hb
  have hk' : (e.kind == 1) = false := by simpa using hk
  by_cases h3 : who < 0
  · have HQ : Hid (mayE J ⟨2, who, index, e⟩ = 4) := Lib.hid (by rw [HK.out, if_neg HNE.out, if_pos (.inl h3)])
    clear HK
    have fM := HM.out.facts
    simp only [seeS, talkR_tag, rowR_tag] at fM
    go_wp2_with (first
      | ((with_reducible refine at_list ?_); first
        | ((with_reducible refine at_load 49 _ rfl ?_); refine mem_load_wide 49 _ rfl rfl rfl (by with_reducible repeat first | exact HM.out | exact ph | apply pt | apply Mem.drew | apply Mem.alloc | apply Mem.set | apply Mem.allocO | (simp only [World.size_alloc, World.size_setCell, World.size_drew]; rfl) | rfl) (by with_reducible repeat first | exact ph | apply pt) Tryd.underlying49 rfl (infoRJ.trans (congrArg some (Eq.symm (by first | rfl | exact HLEN.out | exact HLEN1.out | (simp only [List.length_set]; first | exact HLEN.out | exact HLEN1.out))))) ?_)
        | ((first
          | ((with_reducible refine at_store 49 _ _ rfl ?_); refine mem_store_wide 49 _ _ rfl rfl rfl rfl (by with_reducible repeat first | exact HM.out | exact ph | apply pt | apply Mem.drew | apply Mem.alloc | apply Mem.set | apply Mem.allocO | (simp only [World.size_alloc, World.size_setCell, World.size_drew]; rfl) | rfl) (by with_reducible repeat first | exact ph | apply pt) infoRJ (by first | rfl | exact HLEN.out | exact HLEN1.out | (simp only [List.length_set]; first | exact HLEN.out | exact HLEN1.out)) (by first | rfl | exact HLEN.out | exact HLEN1.out | (simp only [List.length_set]; first | exact HLEN.out | exact HLEN1.out)) (by (repeat refine one_set ?_ rfl _); first | exact HONE.out | exact HONE1.out) ?_; intro w9 M)
          | ((with_reducible refine at_box 49 _ rfl ?_); refine mem_box_wide 49 _ rfl rfl rfl (by with_reducible repeat first | exact HM.out | exact ph | apply pt | apply Mem.drew | apply Mem.alloc | apply Mem.set | apply Mem.allocO | (simp only [World.size_alloc, World.size_setCell, World.size_drew]; rfl) | rfl) ?_; intro w9 n9 M)
          | ((with_reducible refine at_alloc 49 rfl ?_); refine mem_alloc_wide 49 rfl rfl (zeroRJ _) (by with_reducible repeat first | exact HM.out | exact ph | apply pt | apply Mem.drew | apply Mem.alloc | apply Mem.set | apply Mem.allocO | (simp only [World.size_alloc, World.size_setCell, World.size_drew]; rfl) | rfl) ?_; intro w9 n9 M)); (try simp only [List.set_cons_zero, List.set_cons_succ] at M); replace HM := Lib.hid M; clear M; clear fM; have fM := HM.out.facts; simp only [seeS, talkR_tag, rowR_tag] at fM)))
    all_goals clear fM
    go_ret
    refine ⟨?_, ?_⟩
    rotate_left
    · apply Mem.extTo
      with_reducible repeat first | exact HM.out | exact ph | apply pt | apply Mem.drew | apply Mem.alloc | apply Mem.set | apply Mem.allocO | (simp only [World.size_alloc, World.size_setCell, World.size_drew]; rfl) | rfl
    rw [HQ.out]
    rfl
  by_cases h4 : J.n ≤ who
  · have HQ : Hid (mayE J ⟨2, who, index, e⟩ = 4) := Lib.hid (by rw [HK.out, if_neg HNE.out, if_pos (.inr h4)])
    clear HK
    have fM := HM.out.facts
    simp only [seeS, talkR_tag, rowR_tag] at fM
    go_wp2_with (first
      | ((with_reducible refine at_list ?_); first
        | ((with_reducible refine at_load 49 _ rfl ?_); refine mem_load_wide 49 _ rfl rfl rfl (by with_reducible repeat first | exact HM.out | exact ph | apply pt | apply Mem.drew | apply Mem.alloc | apply Mem.set | apply Mem.allocO | (simp only [World.size_alloc, World.size_setCell, World.size_drew]; rfl) | rfl) (by with_reducible repeat first | exact ph | apply pt) Tryd.underlying49 rfl (infoRJ.trans (congrArg some (Eq.symm (by first | rfl | exact HLEN.out | exact HLEN1.out | (simp only [List.length_set]; first | exact HLEN.out | exact HLEN1.out))))) ?_)
        | ((first
          | ((with_reducible refine at_store 49 _ _ rfl ?_); refine mem_store_wide 49 _ _ rfl rfl rfl rfl (by with_reducible repeat first | exact HM.out | exact ph | apply pt | apply Mem.drew | apply Mem.alloc | apply Mem.set | apply Mem.allocO | (simp only [World.size_alloc, World.size_setCell, World.size_drew]; rfl) | rfl) (by with_reducible repeat first | exact ph | apply pt) infoRJ (by first | rfl | exact HLEN.out | exact HLEN1.out | (simp only [List.length_set]; first | exact HLEN.out | exact HLEN1.out)) (by first | rfl | exact HLEN.out | exact HLEN1.out | (simp only [List.length_set]; first | exact HLEN.out | exact HLEN1.out)) (by (repeat refine one_set ?_ rfl _); first | exact HONE.out | exact HONE1.out) ?_; intro w9 M)
          | ((with_reducible refine at_box 49 _ rfl ?_); refine mem_box_wide 49 _ rfl rfl rfl (by with_reducible repeat first | exact HM.out | exact ph | apply pt | apply Mem.drew | apply Mem.alloc | apply Mem.set | apply Mem.allocO | (simp only [World.size_alloc, World.size_setCell, World.size_drew]; rfl) | rfl) ?_; intro w9 n9 M)
          | ((with_reducible refine at_alloc 49 rfl ?_); refine mem_alloc_wide 49 rfl rfl (zeroRJ _) (by with_reducible repeat first | exact HM.out | exact ph | apply pt | apply Mem.drew | apply Mem.alloc | apply Mem.set | apply Mem.allocO | (simp only [World.size_alloc, World.size_setCell, World.size_drew]; rfl) | rfl) ?_; intro w9 n9 M)); (try simp only [List.set_cons_zero, List.set_cons_succ] at M); replace HM := Lib.hid M; clear M; clear fM; have fM := HM.out.facts; simp only [seeS, talkR_tag, rowR_tag] at fM)))
    all_goals clear fM
    go_ret
    refine ⟨?_, ?_⟩
    rotate_left
    · apply Mem.extTo
      with_reducible repeat first | exact HM.out | exact ph | apply pt | apply Mem.drew | apply Mem.alloc | apply Mem.set | apply Mem.allocO | (simp only [World.size_alloc, World.size_setCell, World.size_drew]; rfl) | rfl
    rw [HQ.out]
    rfl
  · have HQ : Hid (mayE J ⟨2, who, index, e⟩ = 0) := Lib.hid (by rw [HK.out, if_neg HNE.out, if_neg (fun h => by rcases h with h | h; exact h3 h; exact h4 h)])
    clear HK
    have fM := HM.out.facts
    simp only [seeS, talkR_tag, rowR_tag] at fM
    go_wp2_with (first
      | ((with_reducible refine at_list ?_); first
        | ((with_reducible refine at_load 49 _ rfl ?_); refine mem_load_wide 49 _ rfl rfl rfl (by with_reducible repeat first | exact HM.out | exact ph | apply pt | apply Mem.drew | apply Mem.alloc | apply Mem.set | apply Mem.allocO | (simp only [World.size_alloc, World.size_setCell, World.size_drew]; rfl) | rfl) (by with_reducible repeat first | exact ph | apply pt) Tryd.underlying49 rfl (infoRJ.trans (congrArg some (Eq.symm (by first | rfl | exact HLEN.out | exact HLEN1.out | (simp only [List.length_set]; first | exact HLEN.out | exact HLEN1.out))))) ?_)
        | ((first
          | ((with_reducible refine at_store 49 _ _ rfl ?_); refine mem_store_wide 49 _ _ rfl rfl rfl rfl (by with_reducible repeat first | exact HM.out | exact ph | apply pt | apply Mem.drew | apply Mem.alloc | apply Mem.set | apply Mem.allocO | (simp only [World.size_alloc, World.size_setCell, World.size_drew]; rfl) | rfl) (by with_reducible repeat first | exact ph | apply pt) infoRJ (by first | rfl | exact HLEN.out | exact HLEN1.out | (simp only [List.length_set]; first | exact HLEN.out | exact HLEN1.out)) (by first | rfl | exact HLEN.out | exact HLEN1.out | (simp only [List.length_set]; first | exact HLEN.out | exact HLEN1.out)) (by (repeat refine one_set ?_ rfl _); first | exact HONE.out | exact HONE1.out) ?_; intro w9 M)
          | ((with_reducible refine at_box 49 _ rfl ?_); refine mem_box_wide 49 _ rfl rfl rfl (by with_reducible repeat first | exact HM.out | exact ph | apply pt | apply Mem.drew | apply Mem.alloc | apply Mem.set | apply Mem.allocO | (simp only [World.size_alloc, World.size_setCell, World.size_drew]; rfl) | rfl) ?_; intro w9 n9 M)
          | ((with_reducible refine at_alloc 49 rfl ?_); refine mem_alloc_wide 49 rfl rfl (zeroRJ _) (by with_reducible repeat first | exact HM.out | exact ph | apply pt | apply Mem.drew | apply Mem.alloc | apply Mem.set | apply Mem.allocO | (simp only [World.size_alloc, World.size_setCell, World.size_drew]; rfl) | rfl) ?_; intro w9 n9 M)); (try simp only [List.set_cons_zero, List.set_cons_succ] at M); replace HM := Lib.hid M; clear M; clear fM; have fM := HM.out.facts; simp only [seeS, talkR_tag, rowR_tag] at fM)))
    all_goals clear fM
    go_ret
    refine ⟨?_, ?_⟩
    rotate_left
    · apply Mem.extTo
      with_reducible repeat first | exact HM.out | exact ph | apply pt | apply Mem.drew | apply Mem.alloc | apply Mem.set | apply Mem.allocO | (simp only [World.size_alloc, World.size_setCell, World.size_drew]; rfl) | rfl
    rw [HQ.out]
    rfl
theorem rmay_3 {A : Nat → Prop} (w : World) (J : JA) (cs : List Value) (who index : Int) (e : En) (h : RefAt w A J cs) :
    Calls Tryd.prog 23 #[.agg cs.toArray, (⟨3, who, index, e⟩ : Sn).v] w fun r w' => r = .returned (.int .i64 (mayE J ⟨3, who, index, e⟩)) ∧ Ext w w' := by
  obtain ⟨al, cl, ap, cp, hlen, hone, c0, c1, -, -, -, -, -, -, -, -⟩ := h.open
  have HLEN := Lib.hid hlen
  have HONE := Lib.hid hone
  have HM := Lib.hid (Mem.start0 w)
  clear h hlen hone
  unfold Sn.v
  dsimp only
  have HK : Hid (mayE J ⟨3, who, index, e⟩ = if index < 0 then 2 else if who < 0 ∨ J.n ≤ who then 4 else 0) := Lib.hid (by simp [mayE, kindF])
  by_cases hi : index < 0
  · have HQ : Hid (mayE J ⟨3, who, index, e⟩ = 2) := Lib.hid (by rw [HK.out, if_pos hi])
    clear HK
    go_enter Tryd.func23, Tryd.ntmps23
    have fM := HM.out.facts
    simp only [seeS, talkR_tag, rowR_tag] at fM
    go_wp2_with (first
      | ((with_reducible refine at_list ?_); first
        | ((with_reducible refine at_load 49 _ rfl ?_); refine mem_load_wide 49 _ rfl rfl rfl (by with_reducible repeat first | exact HM.out | exact ph | apply pt | apply Mem.drew | apply Mem.alloc | apply Mem.set | apply Mem.allocO | (simp only [World.size_alloc, World.size_setCell, World.size_drew]; rfl) | rfl) (by with_reducible repeat first | exact ph | apply pt) Tryd.underlying49 rfl (infoRJ.trans (congrArg some (Eq.symm (by first | rfl | exact HLEN.out | exact HLEN1.out | (simp only [List.length_set]; first | exact HLEN.out | exact HLEN1.out))))) ?_)
        | ((first
          | ((with_reducible refine at_store 49 _ _ rfl ?_); refine mem_store_wide 49 _ _ rfl rfl rfl rfl (by with_reducible repeat first | exact HM.out | exact ph | apply pt | apply Mem.drew | apply Mem.alloc | apply Mem.set | apply Mem.allocO | (simp only [World.size_alloc, World.size_setCell, World.size_drew]; rfl) | rfl) (by with_reducible repeat first | exact ph | apply pt) infoRJ (by first | rfl | exact HLEN.out | exact HLEN1.out | (simp only [List.length_set]; first | exact HLEN.out | exact HLEN1.out)) (by first | rfl | exact HLEN.out | exact HLEN1.out | (simp only [List.length_set]; first | exact HLEN.out | exact HLEN1.out)) (by (repeat refine one_set ?_ rfl _); first | exact HONE.out | exact HONE1.out) ?_; intro w9 M)
          | ((with_reducible refine at_box 49 _ rfl ?_); refine mem_box_wide 49 _ rfl rfl rfl (by with_reducible repeat first | exact HM.out | exact ph | apply pt | apply Mem.drew | apply Mem.alloc | apply Mem.set | apply Mem.allocO | (simp only [World.size_alloc, World.size_setCell, World.size_drew]; rfl) | rfl) ?_; intro w9 n9 M)
          | ((with_reducible refine at_alloc 49 rfl ?_); refine mem_alloc_wide 49 rfl rfl (zeroRJ _) (by with_reducible repeat first | exact HM.out | exact ph | apply pt | apply Mem.drew | apply Mem.alloc | apply Mem.set | apply Mem.allocO | (simp only [World.size_alloc, World.size_setCell, World.size_drew]; rfl) | rfl) ?_; intro w9 n9 M)); (try simp only [List.set_cons_zero, List.set_cons_succ] at M); replace HM := Lib.hid M; clear M; clear fM; have fM := HM.out.facts; simp only [seeS, talkR_tag, rowR_tag] at fM)))
    all_goals clear fM
    go_ret
    refine ⟨?_, ?_⟩
    rotate_left
    · apply Mem.extTo
      with_reducible repeat first | exact HM.out | exact ph | apply pt | apply Mem.drew | apply Mem.alloc | apply Mem.set | apply Mem.allocO | (simp only [World.size_alloc, World.size_setCell, World.size_drew]; rfl) | rfl
    rw [HQ.out]
    rfl
  have HI := Lib.hid hi
  by_cases h3 : who < 0
  · have HQ : Hid (mayE J ⟨3, who, index, e⟩ = 4) := Lib.hid (by rw [HK.out, if_neg hi, if_pos (.inl h3)])
    clear HK
    go_enter Tryd.func23, Tryd.ntmps23
    have fM := HM.out.facts
    simp only [seeS, talkR_tag, rowR_tag] at fM
    go_wp2_with (first
      | ((with_reducible refine at_list ?_); first
        | ((with_reducible refine at_load 49 _ rfl ?_); refine mem_load_wide 49 _ rfl rfl rfl (by with_reducible repeat first | exact HM.out | exact ph | apply pt | apply Mem.drew | apply Mem.alloc | apply Mem.set | apply Mem.allocO | (simp only [World.size_alloc, World.size_setCell, World.size_drew]; rfl) | rfl) (by with_reducible repeat first | exact ph | apply pt) Tryd.underlying49 rfl (infoRJ.trans (congrArg some (Eq.symm (by first | rfl | exact HLEN.out | exact HLEN1.out | (simp only [List.length_set]; first | exact HLEN.out | exact HLEN1.out))))) ?_)
        | ((first
          | ((with_reducible refine at_store 49 _ _ rfl ?_); refine mem_store_wide 49 _ _ rfl rfl rfl rfl (by with_reducible repeat first | exact HM.out | exact ph | apply pt | apply Mem.drew | apply Mem.alloc | apply Mem.set | apply Mem.allocO | (simp only [World.size_alloc, World.size_setCell, World.size_drew]; rfl) | rfl) (by with_reducible repeat first | exact ph | apply pt) infoRJ (by first | rfl | exact HLEN.out | exact HLEN1.out | (simp only [List.length_set]; first | exact HLEN.out | exact HLEN1.out)) (by first | rfl | exact HLEN.out | exact HLEN1.out | (simp only [List.length_set]; first | exact HLEN.out | exact HLEN1.out)) (by (repeat refine one_set ?_ rfl _); first | exact HONE.out | exact HONE1.out) ?_; intro w9 M)
          | ((with_reducible refine at_box 49 _ rfl ?_); refine mem_box_wide 49 _ rfl rfl rfl (by with_reducible repeat first | exact HM.out | exact ph | apply pt | apply Mem.drew | apply Mem.alloc | apply Mem.set | apply Mem.allocO | (simp only [World.size_alloc, World.size_setCell, World.size_drew]; rfl) | rfl) ?_; intro w9 n9 M)
          | ((with_reducible refine at_alloc 49 rfl ?_); refine mem_alloc_wide 49 rfl rfl (zeroRJ _) (by with_reducible repeat first | exact HM.out | exact ph | apply pt | apply Mem.drew | apply Mem.alloc | apply Mem.set | apply Mem.allocO | (simp only [World.size_alloc, World.size_setCell, World.size_drew]; rfl) | rfl) ?_; intro w9 n9 M)); (try simp only [List.set_cons_zero, List.set_cons_succ] at M); replace HM := Lib.hid M; clear M; clear fM; have fM := HM.out.facts; simp only [seeS, talkR_tag, rowR_tag] at fM)))
    all_goals clear fM
    go_ret
    refine ⟨?_, ?_⟩
    rotate_left
    · apply Mem.extTo
      with_reducible repeat first | exact HM.out | exact ph | apply pt | apply Mem.drew | apply Mem.alloc | apply Mem.set | apply Mem.allocO | (simp only [World.size_alloc, World.size_setCell, World.size_drew]; rfl) | rfl
    rw [HQ.out]
    rfl
  by_cases h4 : J.n ≤ who
  · have HQ : Hid (mayE J ⟨3, who, index, e⟩ = 4) := Lib.hid (by rw [HK.out, if_neg hi, if_pos (.inr h4)])
    clear HK
    go_enter Tryd.func23, Tryd.ntmps23
    have fM := HM.out.facts
    simp only [seeS, talkR_tag, rowR_tag] at fM
    go_wp2_with (first
      | ((with_reducible refine at_list ?_); first
        | ((with_reducible refine at_load 49 _ rfl ?_); refine mem_load_wide 49 _ rfl rfl rfl (by with_reducible repeat first | exact HM.out | exact ph | apply pt | apply Mem.drew | apply Mem.alloc | apply Mem.set | apply Mem.allocO | (simp only [World.size_alloc, World.size_setCell, World.size_drew]; rfl) | rfl) (by with_reducible repeat first | exact ph | apply pt) Tryd.underlying49 rfl (infoRJ.trans (congrArg some (Eq.symm (by first | rfl | exact HLEN.out | exact HLEN1.out | (simp only [List.length_set]; first | exact HLEN.out | exact HLEN1.out))))) ?_)
        | ((first
          | ((with_reducible refine at_store 49 _ _ rfl ?_); refine mem_store_wide 49 _ _ rfl rfl rfl rfl (by with_reducible repeat first | exact HM.out | exact ph | apply pt | apply Mem.drew | apply Mem.alloc | apply Mem.set | apply Mem.allocO | (simp only [World.size_alloc, World.size_setCell, World.size_drew]; rfl) | rfl) (by with_reducible repeat first | exact ph | apply pt) infoRJ (by first | rfl | exact HLEN.out | exact HLEN1.out | (simp only [List.length_set]; first | exact HLEN.out | exact HLEN1.out)) (by first | rfl | exact HLEN.out | exact HLEN1.out | (simp only [List.length_set]; first | exact HLEN.out | exact HLEN1.out)) (by (repeat refine one_set ?_ rfl _); first | exact HONE.out | exact HONE1.out) ?_; intro w9 M)
          | ((with_reducible refine at_box 49 _ rfl ?_); refine mem_box_wide 49 _ rfl rfl rfl (by with_reducible repeat first | exact HM.out | exact ph | apply pt | apply Mem.drew | apply Mem.alloc | apply Mem.set | apply Mem.allocO | (simp only [World.size_alloc, World.size_setCell, World.size_drew]; rfl) | rfl) ?_; intro w9 n9 M)
          | ((with_reducible refine at_alloc 49 rfl ?_); refine mem_alloc_wide 49 rfl rfl (zeroRJ _) (by with_reducible repeat first | exact HM.out | exact ph | apply pt | apply Mem.drew | apply Mem.alloc | apply Mem.set | apply Mem.allocO | (simp only [World.size_alloc, World.size_setCell, World.size_drew]; rfl) | rfl) ?_; intro w9 n9 M)); (try simp only [List.set_cons_zero, List.set_cons_succ] at M); replace HM := Lib.hid M; clear M; clear fM; have fM := HM.out.facts; simp only [seeS, talkR_tag, rowR_tag] at fM)))
    all_goals clear fM
    go_ret
    refine ⟨?_, ?_⟩
    rotate_left
    · apply Mem.extTo
      with_reducible repeat first | exact HM.out | exact ph | apply pt | apply Mem.drew | apply Mem.alloc | apply Mem.set | apply Mem.allocO | (simp only [World.size_alloc, World.size_setCell, World.size_drew]; rfl) | rfl
    rw [HQ.out]
    rfl
  · have HQ : Hid (mayE J ⟨3, who, index, e⟩ = 0) := Lib.hid (by rw [HK.out, if_neg hi, if_neg (fun h => by rcases h with h | h; exact h3 h; exact h4 h)])
    clear HK
    go_enter Tryd.func23, Tryd.ntmps23
    have fM := HM.out.facts
    simp only [seeS, talkR_tag, rowR_tag] at fM
    go_wp2_with (first
      | ((with_reducible refine at_list ?_); first
        | ((with_reducible refine at_load 49 _ rfl ?_); refine mem_load_wide 49 _ rfl rfl rfl (by with_reducible repeat first | exact HM.out | exact ph | apply pt | apply Mem.drew | apply Mem.alloc | apply Mem.set | apply Mem.allocO | (simp only [World.size_alloc, World.size_setCell, World.size_drew]; rfl) | rfl) (by with_reducible repeat first | exact ph | apply pt) Tryd.underlying49 rfl (infoRJ.trans (congrArg some (Eq.symm (by first | rfl | exact HLEN.out | exact HLEN1.out | (simp only [List.length_set]; first | exact HLEN.out | exact HLEN1.out))))) ?_)
        | ((first
          | ((with_reducible refine at_store 49 _ _ rfl ?_); refine mem_store_wide 49 _ _ rfl rfl rfl rfl (by with_reducible repeat first | exact HM.out | exact ph | apply pt | apply Mem.drew | apply Mem.alloc | apply Mem.set | apply Mem.allocO | (simp only [World.size_alloc, World.size_setCell, World.size_drew]; rfl) | rfl) (by with_reducible repeat first | exact ph | apply pt) infoRJ (by first | rfl | exact HLEN.out | exact HLEN1.out | (simp only [List.length_set]; first | exact HLEN.out | exact HLEN1.out)) (by first | rfl | exact HLEN.out | exact HLEN1.out | (simp only [List.length_set]; first | exact HLEN.out | exact HLEN1.out)) (by (repeat refine one_set ?_ rfl _); first | exact HONE.out | exact HONE1.out) ?_; intro w9 M)
          | ((with_reducible refine at_box 49 _ rfl ?_); refine mem_box_wide 49 _ rfl rfl rfl (by with_reducible repeat first | exact HM.out | exact ph | apply pt | apply Mem.drew | apply Mem.alloc | apply Mem.set | apply Mem.allocO | (simp only [World.size_alloc, World.size_setCell, World.size_drew]; rfl) | rfl) ?_; intro w9 n9 M)
          | ((with_reducible refine at_alloc 49 rfl ?_); refine mem_alloc_wide 49 rfl rfl (zeroRJ _) (by with_reducible repeat first | exact HM.out | exact ph | apply pt | apply Mem.drew | apply Mem.alloc | apply Mem.set | apply Mem.allocO | (simp only [World.size_alloc, World.size_setCell, World.size_drew]; rfl) | rfl) ?_; intro w9 n9 M)); (try simp only [List.set_cons_zero, List.set_cons_succ] at M); replace HM := Lib.hid M; clear M; clear fM; have fM := HM.out.facts; simp only [seeS, talkR_tag, rowR_tag] at fM)))
    all_goals clear fM
    go_ret
    refine ⟨?_, ?_⟩
    rotate_left
    · apply Mem.extTo
      with_reducible repeat first | exact HM.out | exact ph | apply pt | apply Mem.drew | apply Mem.alloc | apply Mem.set | apply Mem.allocO | (simp only [World.size_alloc, World.size_setCell, World.size_drew]; rfl) | rfl
    rw [HQ.out]
    rfl
theorem rmay_4 {A : Nat → Prop} (w : World) (J : JA) (cs : List Value) (who index : Int) (e : En) (h : RefAt w A J cs) :
    Calls Tryd.prog 23 #[.agg cs.toArray, (⟨4, who, index, e⟩ : Sn).v] w fun r w' => r = .returned (.int .i64 (mayE J ⟨4, who, index, e⟩)) ∧ Ext w w' := by
  obtain ⟨al, cl, ap, cp, hlen, hone, c0, c1, -, -, -, -, -, -, -, -⟩ := h.open
  have HLEN := Lib.hid hlen
  have HONE := Lib.hid hone
  have HM := Lib.hid (Mem.start0 w)
  clear h hlen hone
  unfold Sn.v
  dsimp only
  have HK : Hid (mayE J ⟨4, who, index, e⟩ = if index < 0 then 2 else if who < 0 ∨ J.m ≤ who then 4 else 0) := Lib.hid (by simp [mayE, kindF])
  by_cases hi : index < 0
  · have HQ : Hid (mayE J ⟨4, who, index, e⟩ = 2) := Lib.hid (by rw [HK.out, if_pos hi])
    clear HK
    go_enter Tryd.func23, Tryd.ntmps23
    have fM := HM.out.facts
    simp only [seeS, talkR_tag, rowR_tag] at fM
    go_wp2_with (first
      | ((with_reducible refine at_list ?_); first
        | ((with_reducible refine at_load 49 _ rfl ?_); refine mem_load_wide 49 _ rfl rfl rfl (by with_reducible repeat first | exact HM.out | exact ph | apply pt | apply Mem.drew | apply Mem.alloc | apply Mem.set | apply Mem.allocO | (simp only [World.size_alloc, World.size_setCell, World.size_drew]; rfl) | rfl) (by with_reducible repeat first | exact ph | apply pt) Tryd.underlying49 rfl (infoRJ.trans (congrArg some (Eq.symm (by first | rfl | exact HLEN.out | exact HLEN1.out | (simp only [List.length_set]; first | exact HLEN.out | exact HLEN1.out))))) ?_)
        | ((first
          | ((with_reducible refine at_store 49 _ _ rfl ?_); refine mem_store_wide 49 _ _ rfl rfl rfl rfl (by with_reducible repeat first | exact HM.out | exact ph | apply pt | apply Mem.drew | apply Mem.alloc | apply Mem.set | apply Mem.allocO | (simp only [World.size_alloc, World.size_setCell, World.size_drew]; rfl) | rfl) (by with_reducible repeat first | exact ph | apply pt) infoRJ (by first | rfl | exact HLEN.out | exact HLEN1.out | (simp only [List.length_set]; first | exact HLEN.out | exact HLEN1.out)) (by first | rfl | exact HLEN.out | exact HLEN1.out | (simp only [List.length_set]; first | exact HLEN.out | exact HLEN1.out)) (by (repeat refine one_set ?_ rfl _); first | exact HONE.out | exact HONE1.out) ?_; intro w9 M)
          | ((with_reducible refine at_box 49 _ rfl ?_); refine mem_box_wide 49 _ rfl rfl rfl (by with_reducible repeat first | exact HM.out | exact ph | apply pt | apply Mem.drew | apply Mem.alloc | apply Mem.set | apply Mem.allocO | (simp only [World.size_alloc, World.size_setCell, World.size_drew]; rfl) | rfl) ?_; intro w9 n9 M)
          | ((with_reducible refine at_alloc 49 rfl ?_); refine mem_alloc_wide 49 rfl rfl (zeroRJ _) (by with_reducible repeat first | exact HM.out | exact ph | apply pt | apply Mem.drew | apply Mem.alloc | apply Mem.set | apply Mem.allocO | (simp only [World.size_alloc, World.size_setCell, World.size_drew]; rfl) | rfl) ?_; intro w9 n9 M)); (try simp only [List.set_cons_zero, List.set_cons_succ] at M); replace HM := Lib.hid M; clear M; clear fM; have fM := HM.out.facts; simp only [seeS, talkR_tag, rowR_tag] at fM)))
    all_goals clear fM
    go_ret
    refine ⟨?_, ?_⟩
    rotate_left
    · apply Mem.extTo
      with_reducible repeat first | exact HM.out | exact ph | apply pt | apply Mem.drew | apply Mem.alloc | apply Mem.set | apply Mem.allocO | (simp only [World.size_alloc, World.size_setCell, World.size_drew]; rfl) | rfl
    rw [HQ.out]
    rfl
  have HI := Lib.hid hi
  by_cases h3 : who < 0
  · have HQ : Hid (mayE J ⟨4, who, index, e⟩ = 4) := Lib.hid (by rw [HK.out, if_neg hi, if_pos (.inl h3)])
    clear HK
    go_enter Tryd.func23, Tryd.ntmps23
    have fM := HM.out.facts
    simp only [seeS, talkR_tag, rowR_tag] at fM
    go_wp2_with (first
      | ((with_reducible refine at_list ?_); first
        | ((with_reducible refine at_load 49 _ rfl ?_); refine mem_load_wide 49 _ rfl rfl rfl (by with_reducible repeat first | exact HM.out | exact ph | apply pt | apply Mem.drew | apply Mem.alloc | apply Mem.set | apply Mem.allocO | (simp only [World.size_alloc, World.size_setCell, World.size_drew]; rfl) | rfl) (by with_reducible repeat first | exact ph | apply pt) Tryd.underlying49 rfl (infoRJ.trans (congrArg some (Eq.symm (by first | rfl | exact HLEN.out | exact HLEN1.out | (simp only [List.length_set]; first | exact HLEN.out | exact HLEN1.out))))) ?_)
        | ((first
          | ((with_reducible refine at_store 49 _ _ rfl ?_); refine mem_store_wide 49 _ _ rfl rfl rfl rfl (by with_reducible repeat first | exact HM.out | exact ph | apply pt | apply Mem.drew | apply Mem.alloc | apply Mem.set | apply Mem.allocO | (simp only [World.size_alloc, World.size_setCell, World.size_drew]; rfl) | rfl) (by with_reducible repeat first | exact ph | apply pt) infoRJ (by first | rfl | exact HLEN.out | exact HLEN1.out | (simp only [List.length_set]; first | exact HLEN.out | exact HLEN1.out)) (by first | rfl | exact HLEN.out | exact HLEN1.out | (simp only [List.length_set]; first | exact HLEN.out | exact HLEN1.out)) (by (repeat refine one_set ?_ rfl _); first | exact HONE.out | exact HONE1.out) ?_; intro w9 M)
          | ((with_reducible refine at_box 49 _ rfl ?_); refine mem_box_wide 49 _ rfl rfl rfl (by with_reducible repeat first | exact HM.out | exact ph | apply pt | apply Mem.drew | apply Mem.alloc | apply Mem.set | apply Mem.allocO | (simp only [World.size_alloc, World.size_setCell, World.size_drew]; rfl) | rfl) ?_; intro w9 n9 M)
          | ((with_reducible refine at_alloc 49 rfl ?_); refine mem_alloc_wide 49 rfl rfl (zeroRJ _) (by with_reducible repeat first | exact HM.out | exact ph | apply pt | apply Mem.drew | apply Mem.alloc | apply Mem.set | apply Mem.allocO | (simp only [World.size_alloc, World.size_setCell, World.size_drew]; rfl) | rfl) ?_; intro w9 n9 M)); (try simp only [List.set_cons_zero, List.set_cons_succ] at M); replace HM := Lib.hid M; clear M; clear fM; have fM := HM.out.facts; simp only [seeS, talkR_tag, rowR_tag] at fM)))
    all_goals clear fM
    go_ret
    refine ⟨?_, ?_⟩
    rotate_left
    · apply Mem.extTo
      with_reducible repeat first | exact HM.out | exact ph | apply pt | apply Mem.drew | apply Mem.alloc | apply Mem.set | apply Mem.allocO | (simp only [World.size_alloc, World.size_setCell, World.size_drew]; rfl) | rfl
    rw [HQ.out]
    rfl
  by_cases h4 : J.m ≤ who
  · have HQ : Hid (mayE J ⟨4, who, index, e⟩ = 4) := Lib.hid (by rw [HK.out, if_neg hi, if_pos (.inr h4)])
    clear HK
    go_enter Tryd.func23, Tryd.ntmps23
    have fM := HM.out.facts
    simp only [seeS, talkR_tag, rowR_tag] at fM
    go_wp2_with (first
      | ((with_reducible refine at_list ?_); first
        | ((with_reducible refine at_load 49 _ rfl ?_); refine mem_load_wide 49 _ rfl rfl rfl (by with_reducible repeat first | exact HM.out | exact ph | apply pt | apply Mem.drew | apply Mem.alloc | apply Mem.set | apply Mem.allocO | (simp only [World.size_alloc, World.size_setCell, World.size_drew]; rfl) | rfl) (by with_reducible repeat first | exact ph | apply pt) Tryd.underlying49 rfl (infoRJ.trans (congrArg some (Eq.symm (by first | rfl | exact HLEN.out | exact HLEN1.out | (simp only [List.length_set]; first | exact HLEN.out | exact HLEN1.out))))) ?_)
        | ((first
          | ((with_reducible refine at_store 49 _ _ rfl ?_); refine mem_store_wide 49 _ _ rfl rfl rfl rfl (by with_reducible repeat first | exact HM.out | exact ph | apply pt | apply Mem.drew | apply Mem.alloc | apply Mem.set | apply Mem.allocO | (simp only [World.size_alloc, World.size_setCell, World.size_drew]; rfl) | rfl) (by with_reducible repeat first | exact ph | apply pt) infoRJ (by first | rfl | exact HLEN.out | exact HLEN1.out | (simp only [List.length_set]; first | exact HLEN.out | exact HLEN1.out)) (by first | rfl | exact HLEN.out | exact HLEN1.out | (simp only [List.length_set]; first | exact HLEN.out | exact HLEN1.out)) (by (repeat refine one_set ?_ rfl _); first | exact HONE.out | exact HONE1.out) ?_; intro w9 M)
          | ((with_reducible refine at_box 49 _ rfl ?_); refine mem_box_wide 49 _ rfl rfl rfl (by with_reducible repeat first | exact HM.out | exact ph | apply pt | apply Mem.drew | apply Mem.alloc | apply Mem.set | apply Mem.allocO | (simp only [World.size_alloc, World.size_setCell, World.size_drew]; rfl) | rfl) ?_; intro w9 n9 M)
          | ((with_reducible refine at_alloc 49 rfl ?_); refine mem_alloc_wide 49 rfl rfl (zeroRJ _) (by with_reducible repeat first | exact HM.out | exact ph | apply pt | apply Mem.drew | apply Mem.alloc | apply Mem.set | apply Mem.allocO | (simp only [World.size_alloc, World.size_setCell, World.size_drew]; rfl) | rfl) ?_; intro w9 n9 M)); (try simp only [List.set_cons_zero, List.set_cons_succ] at M); replace HM := Lib.hid M; clear M; clear fM; have fM := HM.out.facts; simp only [seeS, talkR_tag, rowR_tag] at fM)))
    all_goals clear fM
    go_ret
    refine ⟨?_, ?_⟩
    rotate_left
    · apply Mem.extTo
      with_reducible repeat first | exact HM.out | exact ph | apply pt | apply Mem.drew | apply Mem.alloc | apply Mem.set | apply Mem.allocO | (simp only [World.size_alloc, World.size_setCell, World.size_drew]; rfl) | rfl
    rw [HQ.out]
    rfl
  · have HQ : Hid (mayE J ⟨4, who, index, e⟩ = 0) := Lib.hid (by rw [HK.out, if_neg hi, if_neg (fun h => by rcases h with h | h; exact h3 h; exact h4 h)])
    clear HK
    go_enter Tryd.func23, Tryd.ntmps23
    have fM := HM.out.facts
    simp only [seeS, talkR_tag, rowR_tag] at fM
    go_wp2_with (first
      | ((with_reducible refine at_list ?_); first
        | ((with_reducible refine at_load 49 _ rfl ?_); refine mem_load_wide 49 _ rfl rfl rfl (by with_reducible repeat first | exact HM.out | exact ph | apply pt | apply Mem.drew | apply Mem.alloc | apply Mem.set | apply Mem.allocO | (simp only [World.size_alloc, World.size_setCell, World.size_drew]; rfl) | rfl) (by with_reducible repeat first | exact ph | apply pt) Tryd.underlying49 rfl (infoRJ.trans (congrArg some (Eq.symm (by first | rfl | exact HLEN.out | exact HLEN1.out | (simp only [List.length_set]; first | exact HLEN.out | exact HLEN1.out))))) ?_)
        | ((first
          | ((with_reducible refine at_store 49 _ _ rfl ?_); refine mem_store_wide 49 _ _ rfl rfl rfl rfl (by with_reducible repeat first | exact HM.out | exact ph | apply pt | apply Mem.drew | apply Mem.alloc | apply Mem.set | apply Mem.allocO | (simp only [World.size_alloc, World.size_setCell, World.size_drew]; rfl) | rfl) (by with_reducible repeat first | exact ph | apply pt) infoRJ (by first | rfl | exact HLEN.out | exact HLEN1.out | (simp only [List.length_set]; first | exact HLEN.out | exact HLEN1.out)) (by first | rfl | exact HLEN.out | exact HLEN1.out | (simp only [List.length_set]; first | exact HLEN.out | exact HLEN1.out)) (by (repeat refine one_set ?_ rfl _); first | exact HONE.out | exact HONE1.out) ?_; intro w9 M)
          | ((with_reducible refine at_box 49 _ rfl ?_); refine mem_box_wide 49 _ rfl rfl rfl (by with_reducible repeat first | exact HM.out | exact ph | apply pt | apply Mem.drew | apply Mem.alloc | apply Mem.set | apply Mem.allocO | (simp only [World.size_alloc, World.size_setCell, World.size_drew]; rfl) | rfl) ?_; intro w9 n9 M)
          | ((with_reducible refine at_alloc 49 rfl ?_); refine mem_alloc_wide 49 rfl rfl (zeroRJ _) (by with_reducible repeat first | exact HM.out | exact ph | apply pt | apply Mem.drew | apply Mem.alloc | apply Mem.set | apply Mem.allocO | (simp only [World.size_alloc, World.size_setCell, World.size_drew]; rfl) | rfl) ?_; intro w9 n9 M)); (try simp only [List.set_cons_zero, List.set_cons_succ] at M); replace HM := Lib.hid M; clear M; clear fM; have fM := HM.out.facts; simp only [seeS, talkR_tag, rowR_tag] at fM)))
    all_goals clear fM
    go_ret
    refine ⟨?_, ?_⟩
    rotate_left
    · apply Mem.extTo
      with_reducible repeat first | exact HM.out | exact ph | apply pt | apply Mem.drew | apply Mem.alloc | apply Mem.set | apply Mem.allocO | (simp only [World.size_alloc, World.size_setCell, World.size_drew]; rfl) | rfl
    rw [HQ.out]
    rfl
theorem rmay_5 {A : Nat → Prop} (w : World) (J : JA) (cs : List Value) (who index : Int) (e : En) (h : RefAt w A J cs) (ht : e.text.length ≤ 500000) :
    Calls Tryd.prog 23 #[.agg cs.toArray, (⟨5, who, index, e⟩ : Sn).v] w fun r w' => r = .returned (.int .i64 (mayE J ⟨5, who, index, e⟩)) ∧ Ext w w' := by
  have HT := Lib.hid ht
  clear ht
  obtain ⟨al, cl, ap, cp, hlen, hone, c0, c1, -, -, -, -, -, -, -, -⟩ := h.open
  have HLEN := Lib.hid hlen
  have HONE := Lib.hid hone
  have HM := Lib.hid (Mem.start0 w)
  clear h hlen hone
  unfold Sn.v
  dsimp only
  have HK : Hid (mayE J ⟨5, who, index, e⟩ = if index < 0 ∨ (e.kind = 1 ∨ enB e = false) then 2 else if who < 0 ∨ J.m ≤ who then 4 else 0) := Lib.hid (by simp [mayE, kindF])
  by_cases hi : index < 0
  · have HQ : Hid (mayE J ⟨5, who, index, e⟩ = 2) := Lib.hid (by rw [HK.out, if_pos (.inl hi)])
    clear HK
    go_enter Tryd.func23, Tryd.ntmps23
    have fM := HM.out.facts
    simp only [seeS, talkR_tag, rowR_tag] at fM
    go_wp2_with (first
      | ((with_reducible refine at_list ?_); first
        | ((with_reducible refine at_load 49 _ rfl ?_); refine mem_load_wide 49 _ rfl rfl rfl (by with_reducible repeat first | exact HM.out | exact ph | apply pt | apply Mem.drew | apply Mem.alloc | apply Mem.set | apply Mem.allocO | (simp only [World.size_alloc, World.size_setCell, World.size_drew]; rfl) | rfl) (by with_reducible repeat first | exact ph | apply pt) Tryd.underlying49 rfl (infoRJ.trans (congrArg some (Eq.symm (by first | rfl | exact HLEN.out | exact HLEN1.out | (simp only [List.length_set]; first | exact HLEN.out | exact HLEN1.out))))) ?_)
        | ((first
          | ((with_reducible refine at_store 49 _ _ rfl ?_); refine mem_store_wide 49 _ _ rfl rfl rfl rfl (by with_reducible repeat first | exact HM.out | exact ph | apply pt | apply Mem.drew | apply Mem.alloc | apply Mem.set | apply Mem.allocO | (simp only [World.size_alloc, World.size_setCell, World.size_drew]; rfl) | rfl) (by with_reducible repeat first | exact ph | apply pt) infoRJ (by first | rfl | exact HLEN.out | exact HLEN1.out | (simp only [List.length_set]; first | exact HLEN.out | exact HLEN1.out)) (by first | rfl | exact HLEN.out | exact HLEN1.out | (simp only [List.length_set]; first | exact HLEN.out | exact HLEN1.out)) (by (repeat refine one_set ?_ rfl _); first | exact HONE.out | exact HONE1.out) ?_; intro w9 M)
          | ((with_reducible refine at_box 49 _ rfl ?_); refine mem_box_wide 49 _ rfl rfl rfl (by with_reducible repeat first | exact HM.out | exact ph | apply pt | apply Mem.drew | apply Mem.alloc | apply Mem.set | apply Mem.allocO | (simp only [World.size_alloc, World.size_setCell, World.size_drew]; rfl) | rfl) ?_; intro w9 n9 M)
          | ((with_reducible refine at_alloc 49 rfl ?_); refine mem_alloc_wide 49 rfl rfl (zeroRJ _) (by with_reducible repeat first | exact HM.out | exact ph | apply pt | apply Mem.drew | apply Mem.alloc | apply Mem.set | apply Mem.allocO | (simp only [World.size_alloc, World.size_setCell, World.size_drew]; rfl) | rfl) ?_; intro w9 n9 M)); (try simp only [List.set_cons_zero, List.set_cons_succ] at M); replace HM := Lib.hid M; clear M; clear fM; have fM := HM.out.facts; simp only [seeS, talkR_tag, rowR_tag] at fM)))
    all_goals clear fM
    go_ret
    refine ⟨?_, ?_⟩
    rotate_left
    · apply Mem.extTo
      with_reducible repeat first | exact HM.out | exact ph | apply pt | apply Mem.drew | apply Mem.alloc | apply Mem.set | apply Mem.allocO | (simp only [World.size_alloc, World.size_setCell, World.size_drew]; rfl) | rfl
    rw [HQ.out]
    rfl
  have HEV := Lib.hid (show e.v = .agg #[.int .i64 e.kind, .int .i64 e.member, .int .i64 e.number, .string (bs e.text)] from rfl)
  have HI := Lib.hid hi
  go_enter Tryd.func23, Tryd.ntmps23
  have fM := HM.out.facts
  simp only [seeS, talkR_tag, rowR_tag] at fM
  go_wp2_with (first
    | ((with_reducible refine at_list ?_); first
      | ((with_reducible refine at_load 49 _ rfl ?_); refine mem_load_wide 49 _ rfl rfl rfl (by with_reducible repeat first | exact HM.out | exact ph | apply pt | apply Mem.drew | apply Mem.alloc | apply Mem.set | apply Mem.allocO | (simp only [World.size_alloc, World.size_setCell, World.size_drew]; rfl) | rfl) (by with_reducible repeat first | exact ph | apply pt) Tryd.underlying49 rfl (infoRJ.trans (congrArg some (Eq.symm (by first | rfl | exact HLEN.out | exact HLEN1.out | (simp only [List.length_set]; first | exact HLEN.out | exact HLEN1.out))))) ?_)
      | ((first
        | ((with_reducible refine at_store 49 _ _ rfl ?_); refine mem_store_wide 49 _ _ rfl rfl rfl rfl (by with_reducible repeat first | exact HM.out | exact ph | apply pt | apply Mem.drew | apply Mem.alloc | apply Mem.set | apply Mem.allocO | (simp only [World.size_alloc, World.size_setCell, World.size_drew]; rfl) | rfl) (by with_reducible repeat first | exact ph | apply pt) infoRJ (by first | rfl | exact HLEN.out | exact HLEN1.out | (simp only [List.length_set]; first | exact HLEN.out | exact HLEN1.out)) (by first | rfl | exact HLEN.out | exact HLEN1.out | (simp only [List.length_set]; first | exact HLEN.out | exact HLEN1.out)) (by (repeat refine one_set ?_ rfl _); first | exact HONE.out | exact HONE1.out) ?_; intro w9 M)
        | ((with_reducible refine at_box 49 _ rfl ?_); refine mem_box_wide 49 _ rfl rfl rfl (by with_reducible repeat first | exact HM.out | exact ph | apply pt | apply Mem.drew | apply Mem.alloc | apply Mem.set | apply Mem.allocO | (simp only [World.size_alloc, World.size_setCell, World.size_drew]; rfl) | rfl) ?_; intro w9 n9 M)
        | ((with_reducible refine at_alloc 49 rfl ?_); refine mem_alloc_wide 49 rfl rfl (zeroRJ _) (by with_reducible repeat first | exact HM.out | exact ph | apply pt | apply Mem.drew | apply Mem.alloc | apply Mem.set | apply Mem.allocO | (simp only [World.size_alloc, World.size_setCell, World.size_drew]; rfl) | rfl) ?_; intro w9 n9 M)); (try simp only [List.set_cons_zero, List.set_cons_succ] at M); replace HM := Lib.hid M; clear M; clear fM; have fM := HM.out.facts; simp only [seeS, talkR_tag, rowR_tag] at fM)))
  all_goals clear fM
  first | apply Mem.call | apply Mem.postD | apply Mem.stop | apply Mem.toUpd | apply Mem.list | apply Mem.code | apply Mem.post | apply Mem.postM
  · with_reducible repeat first | exact HM.out | exact ph | apply pt | apply Mem.drew | apply Mem.alloc | apply Mem.set | apply Mem.allocO | (simp only [World.size_alloc, World.size_setCell, World.size_drew]; rfl) | rfl
  intro w0 M
  try simp only [List.set_cons_zero, List.set_cons_succ] at M
  replace HM := Lib.hid M
  clear M
  rw [← HEV.out]
  refine (entry14_any w0 e HT.out).mono ?_
  rintro r w1 ⟨rfl, hE⟩
  replace HM := Lib.hid (HM.out.ext hE)
  clear hE hi
  have hi : ¬ index < 0 := by have := HI.out; omega
  cases hb : enB e
  · have HQ : Hid (mayE J ⟨5, who, index, e⟩ = 2) := Lib.hid (by rw [HK.out, if_pos (.inr (.inr hb))])
    clear HK hb
    have fM := HM.out.facts
    simp only [seeS, talkR_tag, rowR_tag] at fM
    go_wp2_with (first
      | ((with_reducible refine at_list ?_); first
        | ((with_reducible refine at_load 49 _ rfl ?_); refine mem_load_wide 49 _ rfl rfl rfl (by with_reducible repeat first | exact HM.out | exact ph | apply pt | apply Mem.drew | apply Mem.alloc | apply Mem.set | apply Mem.allocO | (simp only [World.size_alloc, World.size_setCell, World.size_drew]; rfl) | rfl) (by with_reducible repeat first | exact ph | apply pt) Tryd.underlying49 rfl (infoRJ.trans (congrArg some (Eq.symm (by first | rfl | exact HLEN.out | exact HLEN1.out | (simp only [List.length_set]; first | exact HLEN.out | exact HLEN1.out))))) ?_)
        | ((first
          | ((with_reducible refine at_store 49 _ _ rfl ?_); refine mem_store_wide 49 _ _ rfl rfl rfl rfl (by with_reducible repeat first | exact HM.out | exact ph | apply pt | apply Mem.drew | apply Mem.alloc | apply Mem.set | apply Mem.allocO | (simp only [World.size_alloc, World.size_setCell, World.size_drew]; rfl) | rfl) (by with_reducible repeat first | exact ph | apply pt) infoRJ (by first | rfl | exact HLEN.out | exact HLEN1.out | (simp only [List.length_set]; first | exact HLEN.out | exact HLEN1.out)) (by first | rfl | exact HLEN.out | exact HLEN1.out | (simp only [List.length_set]; first | exact HLEN.out | exact HLEN1.out)) (by (repeat refine one_set ?_ rfl _); first | exact HONE.out | exact HONE1.out) ?_; intro w9 M)
          | ((with_reducible refine at_box 49 _ rfl ?_); refine mem_box_wide 49 _ rfl rfl rfl (by with_reducible repeat first | exact HM.out | exact ph | apply pt | apply Mem.drew | apply Mem.alloc | apply Mem.set | apply Mem.allocO | (simp only [World.size_alloc, World.size_setCell, World.size_drew]; rfl) | rfl) ?_; intro w9 n9 M)
          | ((with_reducible refine at_alloc 49 rfl ?_); refine mem_alloc_wide 49 rfl rfl (zeroRJ _) (by with_reducible repeat first | exact HM.out | exact ph | apply pt | apply Mem.drew | apply Mem.alloc | apply Mem.set | apply Mem.allocO | (simp only [World.size_alloc, World.size_setCell, World.size_drew]; rfl) | rfl) ?_; intro w9 n9 M)); (try simp only [List.set_cons_zero, List.set_cons_succ] at M); replace HM := Lib.hid M; clear M; clear fM; have fM := HM.out.facts; simp only [seeS, talkR_tag, rowR_tag] at fM)))
    all_goals clear fM
    go_ret
    refine ⟨?_, ?_⟩
    rotate_left
    · apply Mem.extTo
      with_reducible repeat first | exact HM.out | exact ph | apply pt | apply Mem.drew | apply Mem.alloc | apply Mem.set | apply Mem.allocO | (simp only [World.size_alloc, World.size_setCell, World.size_drew]; rfl) | rfl
    rw [HQ.out]
    rfl
  by_cases hk : e.kind = 1
  · have HQ : Hid (mayE J ⟨5, who, index, e⟩ = 2) := Lib.hid (by rw [HK.out, if_pos (.inr (.inl hk))])
    clear HK hb
    have fM := HM.out.facts
    simp only [seeS, talkR_tag, rowR_tag] at fM
    go_wp2_with (first
      | ((with_reducible refine at_list ?_); first
        | ((with_reducible refine at_load 49 _ rfl ?_); refine mem_load_wide 49 _ rfl rfl rfl (by with_reducible repeat first | exact HM.out | exact ph | apply pt | apply Mem.drew | apply Mem.alloc | apply Mem.set | apply Mem.allocO | (simp only [World.size_alloc, World.size_setCell, World.size_drew]; rfl) | rfl) (by with_reducible repeat first | exact ph | apply pt) Tryd.underlying49 rfl (infoRJ.trans (congrArg some (Eq.symm (by first | rfl | exact HLEN.out | exact HLEN1.out | (simp only [List.length_set]; first | exact HLEN.out | exact HLEN1.out))))) ?_)
        | ((first
          | ((with_reducible refine at_store 49 _ _ rfl ?_); refine mem_store_wide 49 _ _ rfl rfl rfl rfl (by with_reducible repeat first | exact HM.out | exact ph | apply pt | apply Mem.drew | apply Mem.alloc | apply Mem.set | apply Mem.allocO | (simp only [World.size_alloc, World.size_setCell, World.size_drew]; rfl) | rfl) (by with_reducible repeat first | exact ph | apply pt) infoRJ (by first | rfl | exact HLEN.out | exact HLEN1.out | (simp only [List.length_set]; first | exact HLEN.out | exact HLEN1.out)) (by first | rfl | exact HLEN.out | exact HLEN1.out | (simp only [List.length_set]; first | exact HLEN.out | exact HLEN1.out)) (by (repeat refine one_set ?_ rfl _); first | exact HONE.out | exact HONE1.out) ?_; intro w9 M)
          | ((with_reducible refine at_box 49 _ rfl ?_); refine mem_box_wide 49 _ rfl rfl rfl (by with_reducible repeat first | exact HM.out | exact ph | apply pt | apply Mem.drew | apply Mem.alloc | apply Mem.set | apply Mem.allocO | (simp only [World.size_alloc, World.size_setCell, World.size_drew]; rfl) | rfl) ?_; intro w9 n9 M)
          | ((with_reducible refine at_alloc 49 rfl ?_); refine mem_alloc_wide 49 rfl rfl (zeroRJ _) (by with_reducible repeat first | exact HM.out | exact ph | apply pt | apply Mem.drew | apply Mem.alloc | apply Mem.set | apply Mem.allocO | (simp only [World.size_alloc, World.size_setCell, World.size_drew]; rfl) | rfl) ?_; intro w9 n9 M)); (try simp only [List.set_cons_zero, List.set_cons_succ] at M); replace HM := Lib.hid M; clear M; clear fM; have fM := HM.out.facts; simp only [seeS, talkR_tag, rowR_tag] at fM)))
    all_goals clear fM
    go_ret
    refine ⟨?_, ?_⟩
    rotate_left
    · apply Mem.extTo
      with_reducible repeat first | exact HM.out | exact ph | apply pt | apply Mem.drew | apply Mem.alloc | apply Mem.set | apply Mem.allocO | (simp only [World.size_alloc, World.size_setCell, World.size_drew]; rfl) | rfl
    rw [HQ.out]
    rfl
  have HNE : Hid (¬ (index < 0 ∨ (e.kind = 1 ∨ enB e = false))) := Lib.hid (fun h => by
    rcases h with h | h | h
    · exact hi h
    · exact hk h
    · rw [hb] at h; cases h)
  clear hb
  have hk' : (e.kind == 1) = false := by simpa using hk
  by_cases h3 : who < 0
  · have HQ : Hid (mayE J ⟨5, who, index, e⟩ = 4) := Lib.hid (by rw [HK.out, if_neg HNE.out, if_pos (.inl h3)])
    clear HK
    have fM := HM.out.facts
    simp only [seeS, talkR_tag, rowR_tag] at fM
    go_wp2_with (first
      | ((with_reducible refine at_list ?_); first
        | ((with_reducible refine at_load 49 _ rfl ?_); refine mem_load_wide 49 _ rfl rfl rfl (by with_reducible repeat first | exact HM.out | exact ph | apply pt | apply Mem.drew | apply Mem.alloc | apply Mem.set | apply Mem.allocO | (simp only [World.size_alloc, World.size_setCell, World.size_drew]; rfl) | rfl) (by with_reducible repeat first | exact ph | apply pt) Tryd.underlying49 rfl (infoRJ.trans (congrArg some (Eq.symm (by first | rfl | exact HLEN.out | exact HLEN1.out | (simp only [List.length_set]; first | exact HLEN.out | exact HLEN1.out))))) ?_)
        | ((first
          | ((with_reducible refine at_store 49 _ _ rfl ?_); refine mem_store_wide 49 _ _ rfl rfl rfl rfl (by with_reducible repeat first | exact HM.out | exact ph | apply pt | apply Mem.drew | apply Mem.alloc | apply Mem.set | apply Mem.allocO | (simp only [World.size_alloc, World.size_setCell, World.size_drew]; rfl) | rfl) (by with_reducible repeat first | exact ph | apply pt) infoRJ (by first | rfl | exact HLEN.out | exact HLEN1.out | (simp only [List.length_set]; first | exact HLEN.out | exact HLEN1.out)) (by first | rfl | exact HLEN.out | exact HLEN1.out | (simp only [List.length_set]; first | exact HLEN.out | exact HLEN1.out)) (by (repeat refine one_set ?_ rfl _); first | exact HONE.out | exact HONE1.out) ?_; intro w9 M)
          | ((with_reducible refine at_box 49 _ rfl ?_); refine mem_box_wide 49 _ rfl rfl rfl (by with_reducible repeat first | exact HM.out | exact ph | apply pt | apply Mem.drew | apply Mem.alloc | apply Mem.set | apply Mem.allocO | (simp only [World.size_alloc, World.size_setCell, World.size_drew]; rfl) | rfl) ?_; intro w9 n9 M)
          | ((with_reducible refine at_alloc 49 rfl ?_); refine mem_alloc_wide 49 rfl rfl (zeroRJ _) (by with_reducible repeat first | exact HM.out | exact ph | apply pt | apply Mem.drew | apply Mem.alloc | apply Mem.set | apply Mem.allocO | (simp only [World.size_alloc, World.size_setCell, World.size_drew]; rfl) | rfl) ?_; intro w9 n9 M)); (try simp only [List.set_cons_zero, List.set_cons_succ] at M); replace HM := Lib.hid M; clear M; clear fM; have fM := HM.out.facts; simp only [seeS, talkR_tag, rowR_tag] at fM)))
    all_goals clear fM
    go_ret
    refine ⟨?_, ?_⟩
    rotate_left
    · apply Mem.extTo
      with_reducible repeat first | exact HM.out | exact ph | apply pt | apply Mem.drew | apply Mem.alloc | apply Mem.set | apply Mem.allocO | (simp only [World.size_alloc, World.size_setCell, World.size_drew]; rfl) | rfl
    rw [HQ.out]
    rfl
  by_cases h4 : J.m ≤ who
  · have HQ : Hid (mayE J ⟨5, who, index, e⟩ = 4) := Lib.hid (by rw [HK.out, if_neg HNE.out, if_pos (.inr h4)])
    clear HK
    have fM := HM.out.facts
    simp only [seeS, talkR_tag, rowR_tag] at fM
    go_wp2_with (first
      | ((with_reducible refine at_list ?_); first
        | ((with_reducible refine at_load 49 _ rfl ?_); refine mem_load_wide 49 _ rfl rfl rfl (by with_reducible repeat first | exact HM.out | exact ph | apply pt | apply Mem.drew | apply Mem.alloc | apply Mem.set | apply Mem.allocO | (simp only [World.size_alloc, World.size_setCell, World.size_drew]; rfl) | rfl) (by with_reducible repeat first | exact ph | apply pt) Tryd.underlying49 rfl (infoRJ.trans (congrArg some (Eq.symm (by first | rfl | exact HLEN.out | exact HLEN1.out | (simp only [List.length_set]; first | exact HLEN.out | exact HLEN1.out))))) ?_)
        | ((first
          | ((with_reducible refine at_store 49 _ _ rfl ?_); refine mem_store_wide 49 _ _ rfl rfl rfl rfl (by with_reducible repeat first | exact HM.out | exact ph | apply pt | apply Mem.drew | apply Mem.alloc | apply Mem.set | apply Mem.allocO | (simp only [World.size_alloc, World.size_setCell, World.size_drew]; rfl) | rfl) (by with_reducible repeat first | exact ph | apply pt) infoRJ (by first | rfl | exact HLEN.out | exact HLEN1.out | (simp only [List.length_set]; first | exact HLEN.out | exact HLEN1.out)) (by first | rfl | exact HLEN.out | exact HLEN1.out | (simp only [List.length_set]; first | exact HLEN.out | exact HLEN1.out)) (by (repeat refine one_set ?_ rfl _); first | exact HONE.out | exact HONE1.out) ?_; intro w9 M)
          | ((with_reducible refine at_box 49 _ rfl ?_); refine mem_box_wide 49 _ rfl rfl rfl (by with_reducible repeat first | exact HM.out | exact ph | apply pt | apply Mem.drew | apply Mem.alloc | apply Mem.set | apply Mem.allocO | (simp only [World.size_alloc, World.size_setCell, World.size_drew]; rfl) | rfl) ?_; intro w9 n9 M)
          | ((with_reducible refine at_alloc 49 rfl ?_); refine mem_alloc_wide 49 rfl rfl (zeroRJ _) (by with_reducible repeat first | exact HM.out | exact ph | apply pt | apply Mem.drew | apply Mem.alloc | apply Mem.set | apply Mem.allocO | (simp only [World.size_alloc, World.size_setCell, World.size_drew]; rfl) | rfl) ?_; intro w9 n9 M)); (try simp only [List.set_cons_zero, List.set_cons_succ] at M); replace HM := Lib.hid M; clear M; clear fM; have fM := HM.out.facts; simp only [seeS, talkR_tag, rowR_tag] at fM)))
    all_goals clear fM
    go_ret
    refine ⟨?_, ?_⟩
    rotate_left
    · apply Mem.extTo
      with_reducible repeat first | exact HM.out | exact ph | apply pt | apply Mem.drew | apply Mem.alloc | apply Mem.set | apply Mem.allocO | (simp only [World.size_alloc, World.size_setCell, World.size_drew]; rfl) | rfl
    rw [HQ.out]
    rfl
  · have HQ : Hid (mayE J ⟨5, who, index, e⟩ = 0) := Lib.hid (by rw [HK.out, if_neg HNE.out, if_neg (fun h => by rcases h with h | h; exact h3 h; exact h4 h)])
    clear HK
    have fM := HM.out.facts
    simp only [seeS, talkR_tag, rowR_tag] at fM
    go_wp2_with (first
      | ((with_reducible refine at_list ?_); first
        | ((with_reducible refine at_load 49 _ rfl ?_); refine mem_load_wide 49 _ rfl rfl rfl (by with_reducible repeat first | exact HM.out | exact ph | apply pt | apply Mem.drew | apply Mem.alloc | apply Mem.set | apply Mem.allocO | (simp only [World.size_alloc, World.size_setCell, World.size_drew]; rfl) | rfl) (by with_reducible repeat first | exact ph | apply pt) Tryd.underlying49 rfl (infoRJ.trans (congrArg some (Eq.symm (by first | rfl | exact HLEN.out | exact HLEN1.out | (simp only [List.length_set]; first | exact HLEN.out | exact HLEN1.out))))) ?_)
        | ((first
          | ((with_reducible refine at_store 49 _ _ rfl ?_); refine mem_store_wide 49 _ _ rfl rfl rfl rfl (by with_reducible repeat first | exact HM.out | exact ph | apply pt | apply Mem.drew | apply Mem.alloc | apply Mem.set | apply Mem.allocO | (simp only [World.size_alloc, World.size_setCell, World.size_drew]; rfl) | rfl) (by with_reducible repeat first | exact ph | apply pt) infoRJ (by first | rfl | exact HLEN.out | exact HLEN1.out | (simp only [List.length_set]; first | exact HLEN.out | exact HLEN1.out)) (by first | rfl | exact HLEN.out | exact HLEN1.out | (simp only [List.length_set]; first | exact HLEN.out | exact HLEN1.out)) (by (repeat refine one_set ?_ rfl _); first | exact HONE.out | exact HONE1.out) ?_; intro w9 M)
          | ((with_reducible refine at_box 49 _ rfl ?_); refine mem_box_wide 49 _ rfl rfl rfl (by with_reducible repeat first | exact HM.out | exact ph | apply pt | apply Mem.drew | apply Mem.alloc | apply Mem.set | apply Mem.allocO | (simp only [World.size_alloc, World.size_setCell, World.size_drew]; rfl) | rfl) ?_; intro w9 n9 M)
          | ((with_reducible refine at_alloc 49 rfl ?_); refine mem_alloc_wide 49 rfl rfl (zeroRJ _) (by with_reducible repeat first | exact HM.out | exact ph | apply pt | apply Mem.drew | apply Mem.alloc | apply Mem.set | apply Mem.allocO | (simp only [World.size_alloc, World.size_setCell, World.size_drew]; rfl) | rfl) ?_; intro w9 n9 M)); (try simp only [List.set_cons_zero, List.set_cons_succ] at M); replace HM := Lib.hid M; clear M; clear fM; have fM := HM.out.facts; simp only [seeS, talkR_tag, rowR_tag] at fM)))
    all_goals clear fM
    go_ret
    refine ⟨?_, ?_⟩
    rotate_left
    · apply Mem.extTo
      with_reducible repeat first | exact HM.out | exact ph | apply pt | apply Mem.drew | apply Mem.alloc | apply Mem.set | apply Mem.allocO | (simp only [World.size_alloc, World.size_setCell, World.size_drew]; rfl) | rfl
    rw [HQ.out]
    rfl
theorem rmay_6 {A : Nat → Prop} (w : World) (J : JA) (cs : List Value) (who index : Int) (e : En) (h : RefAt w A J cs) :
    Calls Tryd.prog 23 #[.agg cs.toArray, (⟨6, who, index, e⟩ : Sn).v] w fun r w' => r = .returned (.int .i64 (mayE J ⟨6, who, index, e⟩)) ∧ Ext w w' := by
  obtain ⟨al, cl, ap, cp, hlen, hone, c0, c1, -, -, -, -, -, -, -, -⟩ := h.open
  have HLEN := Lib.hid hlen
  have HONE := Lib.hid hone
  have HM := Lib.hid (Mem.start0 w)
  clear h hlen hone
  unfold Sn.v
  dsimp only
  have HK : Hid (mayE J ⟨6, who, index, e⟩ = if index < -1 then 2 else if who < 0 ∨ J.m ≤ who then 4 else 0) := Lib.hid (by simp [mayE, kindF])
  by_cases hi : index < -1
  · have HQ : Hid (mayE J ⟨6, who, index, e⟩ = 2) := Lib.hid (by rw [HK.out, if_pos hi])
    clear HK
    go_enter Tryd.func23, Tryd.ntmps23
    have fM := HM.out.facts
    simp only [seeS, talkR_tag, rowR_tag] at fM
    go_wp2_with (first
      | ((with_reducible refine at_list ?_); first
        | ((with_reducible refine at_load 49 _ rfl ?_); refine mem_load_wide 49 _ rfl rfl rfl (by with_reducible repeat first | exact HM.out | exact ph | apply pt | apply Mem.drew | apply Mem.alloc | apply Mem.set | apply Mem.allocO | (simp only [World.size_alloc, World.size_setCell, World.size_drew]; rfl) | rfl) (by with_reducible repeat first | exact ph | apply pt) Tryd.underlying49 rfl (infoRJ.trans (congrArg some (Eq.symm (by first | rfl | exact HLEN.out | exact HLEN1.out | (simp only [List.length_set]; first | exact HLEN.out | exact HLEN1.out))))) ?_)
        | ((first
          | ((with_reducible refine at_store 49 _ _ rfl ?_); refine mem_store_wide 49 _ _ rfl rfl rfl rfl (by with_reducible repeat first | exact HM.out | exact ph | apply pt | apply Mem.drew | apply Mem.alloc | apply Mem.set | apply Mem.allocO | (simp only [World.size_alloc, World.size_setCell, World.size_drew]; rfl) | rfl) (by with_reducible repeat first | exact ph | apply pt) infoRJ (by first | rfl | exact HLEN.out | exact HLEN1.out | (simp only [List.length_set]; first | exact HLEN.out | exact HLEN1.out)) (by first | rfl | exact HLEN.out | exact HLEN1.out | (simp only [List.length_set]; first | exact HLEN.out | exact HLEN1.out)) (by (repeat refine one_set ?_ rfl _); first | exact HONE.out | exact HONE1.out) ?_; intro w9 M)
          | ((with_reducible refine at_box 49 _ rfl ?_); refine mem_box_wide 49 _ rfl rfl rfl (by with_reducible repeat first | exact HM.out | exact ph | apply pt | apply Mem.drew | apply Mem.alloc | apply Mem.set | apply Mem.allocO | (simp only [World.size_alloc, World.size_setCell, World.size_drew]; rfl) | rfl) ?_; intro w9 n9 M)
          | ((with_reducible refine at_alloc 49 rfl ?_); refine mem_alloc_wide 49 rfl rfl (zeroRJ _) (by with_reducible repeat first | exact HM.out | exact ph | apply pt | apply Mem.drew | apply Mem.alloc | apply Mem.set | apply Mem.allocO | (simp only [World.size_alloc, World.size_setCell, World.size_drew]; rfl) | rfl) ?_; intro w9 n9 M)); (try simp only [List.set_cons_zero, List.set_cons_succ] at M); replace HM := Lib.hid M; clear M; clear fM; have fM := HM.out.facts; simp only [seeS, talkR_tag, rowR_tag] at fM)))
    all_goals clear fM
    go_ret
    refine ⟨?_, ?_⟩
    rotate_left
    · apply Mem.extTo
      with_reducible repeat first | exact HM.out | exact ph | apply pt | apply Mem.drew | apply Mem.alloc | apply Mem.set | apply Mem.allocO | (simp only [World.size_alloc, World.size_setCell, World.size_drew]; rfl) | rfl
    rw [HQ.out]
    rfl
  have HI := Lib.hid hi
  by_cases h3 : who < 0
  · have HQ : Hid (mayE J ⟨6, who, index, e⟩ = 4) := Lib.hid (by rw [HK.out, if_neg hi, if_pos (.inl h3)])
    clear HK
    go_enter Tryd.func23, Tryd.ntmps23
    have fM := HM.out.facts
    simp only [seeS, talkR_tag, rowR_tag] at fM
    go_wp2_with (first
      | ((with_reducible refine at_list ?_); first
        | ((with_reducible refine at_load 49 _ rfl ?_); refine mem_load_wide 49 _ rfl rfl rfl (by with_reducible repeat first | exact HM.out | exact ph | apply pt | apply Mem.drew | apply Mem.alloc | apply Mem.set | apply Mem.allocO | (simp only [World.size_alloc, World.size_setCell, World.size_drew]; rfl) | rfl) (by with_reducible repeat first | exact ph | apply pt) Tryd.underlying49 rfl (infoRJ.trans (congrArg some (Eq.symm (by first | rfl | exact HLEN.out | exact HLEN1.out | (simp only [List.length_set]; first | exact HLEN.out | exact HLEN1.out))))) ?_)
        | ((first
          | ((with_reducible refine at_store 49 _ _ rfl ?_); refine mem_store_wide 49 _ _ rfl rfl rfl rfl (by with_reducible repeat first | exact HM.out | exact ph | apply pt | apply Mem.drew | apply Mem.alloc | apply Mem.set | apply Mem.allocO | (simp only [World.size_alloc, World.size_setCell, World.size_drew]; rfl) | rfl) (by with_reducible repeat first | exact ph | apply pt) infoRJ (by first | rfl | exact HLEN.out | exact HLEN1.out | (simp only [List.length_set]; first | exact HLEN.out | exact HLEN1.out)) (by first | rfl | exact HLEN.out | exact HLEN1.out | (simp only [List.length_set]; first | exact HLEN.out | exact HLEN1.out)) (by (repeat refine one_set ?_ rfl _); first | exact HONE.out | exact HONE1.out) ?_; intro w9 M)
          | ((with_reducible refine at_box 49 _ rfl ?_); refine mem_box_wide 49 _ rfl rfl rfl (by with_reducible repeat first | exact HM.out | exact ph | apply pt | apply Mem.drew | apply Mem.alloc | apply Mem.set | apply Mem.allocO | (simp only [World.size_alloc, World.size_setCell, World.size_drew]; rfl) | rfl) ?_; intro w9 n9 M)
          | ((with_reducible refine at_alloc 49 rfl ?_); refine mem_alloc_wide 49 rfl rfl (zeroRJ _) (by with_reducible repeat first | exact HM.out | exact ph | apply pt | apply Mem.drew | apply Mem.alloc | apply Mem.set | apply Mem.allocO | (simp only [World.size_alloc, World.size_setCell, World.size_drew]; rfl) | rfl) ?_; intro w9 n9 M)); (try simp only [List.set_cons_zero, List.set_cons_succ] at M); replace HM := Lib.hid M; clear M; clear fM; have fM := HM.out.facts; simp only [seeS, talkR_tag, rowR_tag] at fM)))
    all_goals clear fM
    go_ret
    refine ⟨?_, ?_⟩
    rotate_left
    · apply Mem.extTo
      with_reducible repeat first | exact HM.out | exact ph | apply pt | apply Mem.drew | apply Mem.alloc | apply Mem.set | apply Mem.allocO | (simp only [World.size_alloc, World.size_setCell, World.size_drew]; rfl) | rfl
    rw [HQ.out]
    rfl
  by_cases h4 : J.m ≤ who
  · have HQ : Hid (mayE J ⟨6, who, index, e⟩ = 4) := Lib.hid (by rw [HK.out, if_neg hi, if_pos (.inr h4)])
    clear HK
    go_enter Tryd.func23, Tryd.ntmps23
    have fM := HM.out.facts
    simp only [seeS, talkR_tag, rowR_tag] at fM
    go_wp2_with (first
      | ((with_reducible refine at_list ?_); first
        | ((with_reducible refine at_load 49 _ rfl ?_); refine mem_load_wide 49 _ rfl rfl rfl (by with_reducible repeat first | exact HM.out | exact ph | apply pt | apply Mem.drew | apply Mem.alloc | apply Mem.set | apply Mem.allocO | (simp only [World.size_alloc, World.size_setCell, World.size_drew]; rfl) | rfl) (by with_reducible repeat first | exact ph | apply pt) Tryd.underlying49 rfl (infoRJ.trans (congrArg some (Eq.symm (by first | rfl | exact HLEN.out | exact HLEN1.out | (simp only [List.length_set]; first | exact HLEN.out | exact HLEN1.out))))) ?_)
        | ((first
          | ((with_reducible refine at_store 49 _ _ rfl ?_); refine mem_store_wide 49 _ _ rfl rfl rfl rfl (by with_reducible repeat first | exact HM.out | exact ph | apply pt | apply Mem.drew | apply Mem.alloc | apply Mem.set | apply Mem.allocO | (simp only [World.size_alloc, World.size_setCell, World.size_drew]; rfl) | rfl) (by with_reducible repeat first | exact ph | apply pt) infoRJ (by first | rfl | exact HLEN.out | exact HLEN1.out | (simp only [List.length_set]; first | exact HLEN.out | exact HLEN1.out)) (by first | rfl | exact HLEN.out | exact HLEN1.out | (simp only [List.length_set]; first | exact HLEN.out | exact HLEN1.out)) (by (repeat refine one_set ?_ rfl _); first | exact HONE.out | exact HONE1.out) ?_; intro w9 M)
          | ((with_reducible refine at_box 49 _ rfl ?_); refine mem_box_wide 49 _ rfl rfl rfl (by with_reducible repeat first | exact HM.out | exact ph | apply pt | apply Mem.drew | apply Mem.alloc | apply Mem.set | apply Mem.allocO | (simp only [World.size_alloc, World.size_setCell, World.size_drew]; rfl) | rfl) ?_; intro w9 n9 M)
          | ((with_reducible refine at_alloc 49 rfl ?_); refine mem_alloc_wide 49 rfl rfl (zeroRJ _) (by with_reducible repeat first | exact HM.out | exact ph | apply pt | apply Mem.drew | apply Mem.alloc | apply Mem.set | apply Mem.allocO | (simp only [World.size_alloc, World.size_setCell, World.size_drew]; rfl) | rfl) ?_; intro w9 n9 M)); (try simp only [List.set_cons_zero, List.set_cons_succ] at M); replace HM := Lib.hid M; clear M; clear fM; have fM := HM.out.facts; simp only [seeS, talkR_tag, rowR_tag] at fM)))
    all_goals clear fM
    go_ret
    refine ⟨?_, ?_⟩
    rotate_left
    · apply Mem.extTo
      with_reducible repeat first | exact HM.out | exact ph | apply pt | apply Mem.drew | apply Mem.alloc | apply Mem.set | apply Mem.allocO | (simp only [World.size_alloc, World.size_setCell, World.size_drew]; rfl) | rfl
    rw [HQ.out]
    rfl
  · have HQ : Hid (mayE J ⟨6, who, index, e⟩ = 0) := Lib.hid (by rw [HK.out, if_neg hi, if_neg (fun h => by rcases h with h | h; exact h3 h; exact h4 h)])
    clear HK
    go_enter Tryd.func23, Tryd.ntmps23
    have fM := HM.out.facts
    simp only [seeS, talkR_tag, rowR_tag] at fM
    go_wp2_with (first
      | ((with_reducible refine at_list ?_); first
        | ((with_reducible refine at_load 49 _ rfl ?_); refine mem_load_wide 49 _ rfl rfl rfl (by with_reducible repeat first | exact HM.out | exact ph | apply pt | apply Mem.drew | apply Mem.alloc | apply Mem.set | apply Mem.allocO | (simp only [World.size_alloc, World.size_setCell, World.size_drew]; rfl) | rfl) (by with_reducible repeat first | exact ph | apply pt) Tryd.underlying49 rfl (infoRJ.trans (congrArg some (Eq.symm (by first | rfl | exact HLEN.out | exact HLEN1.out | (simp only [List.length_set]; first | exact HLEN.out | exact HLEN1.out))))) ?_)
        | ((first
          | ((with_reducible refine at_store 49 _ _ rfl ?_); refine mem_store_wide 49 _ _ rfl rfl rfl rfl (by with_reducible repeat first | exact HM.out | exact ph | apply pt | apply Mem.drew | apply Mem.alloc | apply Mem.set | apply Mem.allocO | (simp only [World.size_alloc, World.size_setCell, World.size_drew]; rfl) | rfl) (by with_reducible repeat first | exact ph | apply pt) infoRJ (by first | rfl | exact HLEN.out | exact HLEN1.out | (simp only [List.length_set]; first | exact HLEN.out | exact HLEN1.out)) (by first | rfl | exact HLEN.out | exact HLEN1.out | (simp only [List.length_set]; first | exact HLEN.out | exact HLEN1.out)) (by (repeat refine one_set ?_ rfl _); first | exact HONE.out | exact HONE1.out) ?_; intro w9 M)
          | ((with_reducible refine at_box 49 _ rfl ?_); refine mem_box_wide 49 _ rfl rfl rfl (by with_reducible repeat first | exact HM.out | exact ph | apply pt | apply Mem.drew | apply Mem.alloc | apply Mem.set | apply Mem.allocO | (simp only [World.size_alloc, World.size_setCell, World.size_drew]; rfl) | rfl) ?_; intro w9 n9 M)
          | ((with_reducible refine at_alloc 49 rfl ?_); refine mem_alloc_wide 49 rfl rfl (zeroRJ _) (by with_reducible repeat first | exact HM.out | exact ph | apply pt | apply Mem.drew | apply Mem.alloc | apply Mem.set | apply Mem.allocO | (simp only [World.size_alloc, World.size_setCell, World.size_drew]; rfl) | rfl) ?_; intro w9 n9 M)); (try simp only [List.set_cons_zero, List.set_cons_succ] at M); replace HM := Lib.hid M; clear M; clear fM; have fM := HM.out.facts; simp only [seeS, talkR_tag, rowR_tag] at fM)))
    all_goals clear fM
    go_ret
    refine ⟨?_, ?_⟩
    rotate_left
    · apply Mem.extTo
      with_reducible repeat first | exact HM.out | exact ph | apply pt | apply Mem.drew | apply Mem.alloc | apply Mem.set | apply Mem.allocO | (simp only [World.size_alloc, World.size_setCell, World.size_drew]; rfl) | rfl
    rw [HQ.out]
    rfl
theorem rmay_any {A : Nat → Prop} (w : World) (J : JA) (cs : List Value) (x : Sn) (h : RefAt w A J cs) (ht : x.e.text.length ≤ 500000) :
    Calls Tryd.prog 23 #[.agg cs.toArray, x.v] w fun r w' => r = .returned (.int .i64 (mayE J x)) ∧ Ext w w' := by
  obtain ⟨kind, who, index, e⟩ := x
  by_cases hk : 1 ≤ kind ∧ kind ≤ 6
  case neg =>
    have HQ : Hid (mayE J ⟨kind, who, index, e⟩ = 2) := Lib.hid (mayE_none hk)
    obtain ⟨al, cl, ap, cp, hlen, hone, c0, c1, -, -, -, -, -, -, -, -⟩ := h.open
    have HLEN := Lib.hid hlen
    have HONE := Lib.hid hone
    have HM := Lib.hid (Mem.start0 w)
    clear h hlen hone
    unfold Sn.v
    dsimp only
    by_cases k1 : kind < 1
    · clear hk
      go_enter Tryd.func23, Tryd.ntmps23
      have fM := HM.out.facts
      simp only [seeS, talkR_tag, rowR_tag] at fM
      go_wp2_with (first
        | ((with_reducible refine at_list ?_); first
          | ((with_reducible refine at_load 49 _ rfl ?_); refine mem_load_wide 49 _ rfl rfl rfl (by with_reducible repeat first | exact HM.out | exact ph | apply pt | apply Mem.drew | apply Mem.alloc | apply Mem.set | apply Mem.allocO | (simp only [World.size_alloc, World.size_setCell, World.size_drew]; rfl) | rfl) (by with_reducible repeat first | exact ph | apply pt) Tryd.underlying49 rfl (infoRJ.trans (congrArg some (Eq.symm (by first | rfl | exact HLEN.out | exact HLEN1.out | (simp only [List.length_set]; first | exact HLEN.out | exact HLEN1.out))))) ?_)
          | ((first
            | ((with_reducible refine at_store 49 _ _ rfl ?_); refine mem_store_wide 49 _ _ rfl rfl rfl rfl (by with_reducible repeat first | exact HM.out | exact ph | apply pt | apply Mem.drew | apply Mem.alloc | apply Mem.set | apply Mem.allocO | (simp only [World.size_alloc, World.size_setCell, World.size_drew]; rfl) | rfl) (by with_reducible repeat first | exact ph | apply pt) infoRJ (by first | rfl | exact HLEN.out | exact HLEN1.out | (simp only [List.length_set]; first | exact HLEN.out | exact HLEN1.out)) (by first | rfl | exact HLEN.out | exact HLEN1.out | (simp only [List.length_set]; first | exact HLEN.out | exact HLEN1.out)) (by (repeat refine one_set ?_ rfl _); first | exact HONE.out | exact HONE1.out) ?_; intro w9 M)
            | ((with_reducible refine at_box 49 _ rfl ?_); refine mem_box_wide 49 _ rfl rfl rfl (by with_reducible repeat first | exact HM.out | exact ph | apply pt | apply Mem.drew | apply Mem.alloc | apply Mem.set | apply Mem.allocO | (simp only [World.size_alloc, World.size_setCell, World.size_drew]; rfl) | rfl) ?_; intro w9 n9 M)
            | ((with_reducible refine at_alloc 49 rfl ?_); refine mem_alloc_wide 49 rfl rfl (zeroRJ _) (by with_reducible repeat first | exact HM.out | exact ph | apply pt | apply Mem.drew | apply Mem.alloc | apply Mem.set | apply Mem.allocO | (simp only [World.size_alloc, World.size_setCell, World.size_drew]; rfl) | rfl) ?_; intro w9 n9 M)); (try simp only [List.set_cons_zero, List.set_cons_succ] at M); replace HM := Lib.hid M; clear M; clear fM; have fM := HM.out.facts; simp only [seeS, talkR_tag, rowR_tag] at fM)))
      all_goals clear fM
      go_ret
      refine ⟨?_, ?_⟩
      rotate_left
      · apply Mem.extTo
        with_reducible repeat first | exact HM.out | exact ph | apply pt | apply Mem.drew | apply Mem.alloc | apply Mem.set | apply Mem.allocO | (simp only [World.size_alloc, World.size_setCell, World.size_drew]; rfl) | rfl
      rw [HQ.out]
      rfl
    · have k2 : 6 < kind := by omega
      clear hk
      go_enter Tryd.func23, Tryd.ntmps23
      have fM := HM.out.facts
      simp only [seeS, talkR_tag, rowR_tag] at fM
      go_wp2_with (first
        | ((with_reducible refine at_list ?_); first
          | ((with_reducible refine at_load 49 _ rfl ?_); refine mem_load_wide 49 _ rfl rfl rfl (by with_reducible repeat first | exact HM.out | exact ph | apply pt | apply Mem.drew | apply Mem.alloc | apply Mem.set | apply Mem.allocO | (simp only [World.size_alloc, World.size_setCell, World.size_drew]; rfl) | rfl) (by with_reducible repeat first | exact ph | apply pt) Tryd.underlying49 rfl (infoRJ.trans (congrArg some (Eq.symm (by first | rfl | exact HLEN.out | exact HLEN1.out | (simp only [List.length_set]; first | exact HLEN.out | exact HLEN1.out))))) ?_)
          | ((first
            | ((with_reducible refine at_store 49 _ _ rfl ?_); refine mem_store_wide 49 _ _ rfl rfl rfl rfl (by with_reducible repeat first | exact HM.out | exact ph | apply pt | apply Mem.drew | apply Mem.alloc | apply Mem.set | apply Mem.allocO | (simp only [World.size_alloc, World.size_setCell, World.size_drew]; rfl) | rfl) (by with_reducible repeat first | exact ph | apply pt) infoRJ (by first | rfl | exact HLEN.out | exact HLEN1.out | (simp only [List.length_set]; first | exact HLEN.out | exact HLEN1.out)) (by first | rfl | exact HLEN.out | exact HLEN1.out | (simp only [List.length_set]; first | exact HLEN.out | exact HLEN1.out)) (by (repeat refine one_set ?_ rfl _); first | exact HONE.out | exact HONE1.out) ?_; intro w9 M)
            | ((with_reducible refine at_box 49 _ rfl ?_); refine mem_box_wide 49 _ rfl rfl rfl (by with_reducible repeat first | exact HM.out | exact ph | apply pt | apply Mem.drew | apply Mem.alloc | apply Mem.set | apply Mem.allocO | (simp only [World.size_alloc, World.size_setCell, World.size_drew]; rfl) | rfl) ?_; intro w9 n9 M)
            | ((with_reducible refine at_alloc 49 rfl ?_); refine mem_alloc_wide 49 rfl rfl (zeroRJ _) (by with_reducible repeat first | exact HM.out | exact ph | apply pt | apply Mem.drew | apply Mem.alloc | apply Mem.set | apply Mem.allocO | (simp only [World.size_alloc, World.size_setCell, World.size_drew]; rfl) | rfl) ?_; intro w9 n9 M)); (try simp only [List.set_cons_zero, List.set_cons_succ] at M); replace HM := Lib.hid M; clear M; clear fM; have fM := HM.out.facts; simp only [seeS, talkR_tag, rowR_tag] at fM)))
      all_goals clear fM
      go_ret
      refine ⟨?_, ?_⟩
      rotate_left
      · apply Mem.extTo
        with_reducible repeat first | exact HM.out | exact ph | apply pt | apply Mem.drew | apply Mem.alloc | apply Mem.set | apply Mem.allocO | (simp only [World.size_alloc, World.size_setCell, World.size_drew]; rfl) | rfl
      rw [HQ.out]
      rfl
  obtain rfl | rfl | rfl | rfl | rfl | rfl : kind = 1 ∨ kind = 2 ∨ kind = 3 ∨ kind = 4 ∨ kind = 5 ∨ kind = 6 := by omega
  · exact rmay_1 w J cs who index e h ht
  · exact rmay_2 w J cs who index e h ht
  · exact rmay_3 w J cs who index e h
  · exact rmay_4 w J cs who index e h
  · exact rmay_5 w J cs who index e h ht
  · exact rmay_6 w J cs who index e h
end Go.Proofs.YthhdgjofagdjeaaDoor
end
