/- Texts VH, one behind the other. Conditions: as each says. -/
import Derived.Test.YthhdgjofagdjeaaDoorPkO
section
/- The document's judge sees a thing. Condition: the judge reads as 'RefAt' says, and is such as came by things seen. -/
set_option linter.unusedVariables false
set_option linter.unusedSimpArgs false
set_option maxHeartbeats 4000000
set_option maxRecDepth 100000
namespace Go.Proofs.YthhdgjofagdjeaaDoor
open Go.RowKit Go.Shelf
/-- blocks that were made between two moments -/
def Since (a b : Nat) : Nat → Prop := fun k => a ≤ k ∧ k < b
theorem Mem.restart {w w2 w3 : World} {L : List Res} (h : Mem NoB w w2 L) (e : Ext w2 w3) : Mem (Since w.heap.size w2.heap.size) w3 w3 L := by
  obtain ⟨a, G, b, c⟩ := h
  have hlt := b.lt
  refine ⟨Keeps.refl _ _, G, b.keeps e fun _ _ => noB _, fun k hk => .inl ⟨?_, hlt k hk⟩⟩
  rcases c k hk with h | h
  · exact (noB _ h).elim
  · exact h
theorem kindsR_bad (J : JA) (x : Sn) (h : (kindsR J x).2 ≠ 0) : (kindsR J x).1 = J := by
  unfold kindsR at h ⊢
  split
  · rename_i hk; rw [if_pos hk] at h; unfold putR at h ⊢; split
    · rename_i hh; rw [if_pos hh] at h; exact absurd rfl h
    · rfl
  rename_i h1; rw [if_neg h1] at h
  split
  · rename_i hk; rw [if_pos hk] at h; unfold lineR at h ⊢
    split
    · rfl
    rename_i h3; rw [if_neg h3] at h
    split
    · rename_i h4; rw [if_pos h4] at h
      split
      · rename_i h5; rw [if_pos h5] at h; exact absurd rfl h
      · rfl
    rename_i h4; rw [if_neg h4] at h
    split
    · rfl
    rename_i h5; rw [if_neg h5] at h
    split
    · rename_i h6; rw [if_pos h6] at h; exact absurd rfl h
    · rfl
  rename_i h2; rw [if_neg h2] at h
  split
  · rename_i hk; rw [if_pos hk] at h; unfold backR at h ⊢
    split
    · rfl
    rename_i h3; rw [if_neg h3] at h
    split
    · rfl
    rename_i h4; rw [if_neg h4] at h; exact absurd rfl h
  rename_i h3; rw [if_neg h3] at h
  split
  · rename_i hk; rw [if_pos hk] at h; unfold beganR at h ⊢
    split
    · rfl
    rename_i h4; rw [if_neg h4] at h
    split
    · rfl
    rename_i h5; rw [if_neg h5] at h
    split
    · rfl
    rename_i h6; rw [if_neg h6] at h; exact absurd rfl h
  rename_i h4; rw [if_neg h4] at h
  split
  · rename_i hk; rw [if_pos hk] at h; unfold toldR at h ⊢
    split
    · rfl
    rename_i h5; rw [if_neg h5] at h
    split
    · rfl
    rename_i h6; rw [if_neg h6] at h
    split
    · rfl
    rename_i h7; rw [if_neg h7] at h; exact absurd rfl h
  rename_i h5; rw [if_neg h5] at h
  unfold wentR at h ⊢
  split
  · rename_i h6; rw [if_pos h6] at h; exact absurd rfl h
  · rfl
theorem seeR_may {J : JA} {x : Sn} (h : mayE J x ≠ 0) : seeR J x = (J, mayE J x) := by unfold seeR; rw [if_neg h]
theorem seeR_ok {J : JA} {x : Sn} (h : mayE J x = 0) (h0 : (kindsR J x).2 = 0) : seeR J x = ((kindsR J x).1, 0) := by unfold seeR; rw [if_pos h, if_pos h0]
theorem seeR_bad {J : JA} {x : Sn} (h : mayE J x = 0) (h0 : (kindsR J x).2 ≠ 0) : seeR J x = ({ J with broken := wrap64 (J.broken + 1) }, (kindsR J x).2) := by unfold seeR; rw [if_pos h, if_neg h0, kindsR_bad J x h0]
/-- what a judge that came by things seen is -/
structure OkR (J : JA) : Prop extends OkJ J where
  st : J.T.Ok
  puts : J.put.length ≤ 1000000
/-- the contract of See -/
def SeeC (w : World) (A : Nat → Prop) (J : JA) (cs : List Value) (x : Sn) : Prop :=
  Calls Tryd.prog 13 #[.agg cs.toArray, x.v] w fun r w' => ∃ cs', r = .returned (.tuple #[.agg cs'.toArray, .int .i64 (seeR J x).2]) ∧ RefAt w' (fun k => A k ∨ w.heap.size ≤ k) (seeR J x).1 cs' ∧ Ext w w'
theorem rsee_may {A : Nat → Prop} (w : World) (J : JA) (cs : List Value) (x : Sn) (h : RefAt w A J cs) (hA : ∀ k, A k → k < w.heap.size) (hok : OkR J) (ht : x.e.text.length ≤ 500000) (hm : mayE J x ≠ 0) : SeeC w A J cs x := by
  have hlt0 : ∀ k, A k → k < w.heap.size := hA
  obtain ⟨al, cl, ap, cp, hlen, hone, -, -, -, c3, cT, -, c29, c30, hvl, hvp⟩ := h.open
  have HR := Lib.hid h
  have HV := Lib.hid hvp
  have HLEN := Lib.hid hlen
  have HONE := Lib.hid hone
  have HOK := Lib.hid hok
  have HTX := Lib.hid ht
  have HLT := Lib.hid hlt0
  have HM := Lib.hid (Mem.start0 w)
  have HQ := Lib.hid (seeR_may hm)
  have HXV := Lib.hid (show x.v = .agg #[.int .i64 x.kind, .int .i64 x.who, .int .i64 x.index, .int .i64 x.e.kind, .int .i64 x.e.member, .int .i64 x.e.number, .string (bs x.e.text)] from rfl)
  obtain ⟨m, hmm⟩ : ∃ m, mayE J x = m := ⟨_, rfl⟩
  rw [hmm] at hm HQ
  have HMM := Lib.hid hmm
  have hm' : (m != 0) = true := by simpa using hm
  clear h hA hok ht hlt0 hlen hone c3 cT c29 c30 hvl hvp hmm hm
  unfold SeeC
  rw [HXV.out]
  go_enter Tryd.func13, Tryd.ntmps13
  have fM := HM.out.facts
  simp only [seeS, talkR_tag, rowR_tag] at fM
  go_wp2_with (first
    | ((with_reducible refine at_list ?_); first
      | ((with_reducible refine at_load 49 _ rfl ?_); refine mem_load_wide 49 _ rfl rfl rfl (by with_reducible repeat first | exact HM.out | exact ph | apply pt | apply Mem.drew | apply Mem.alloc | apply Mem.set | apply Mem.allocO | (simp only [World.size_alloc, World.size_setCell, World.size_drew]; rfl) | rfl) (by with_reducible repeat first | exact ph | apply pt) Tryd.underlying49 rfl (infoRJ.trans (congrArg some (Eq.symm (by first | rfl | exact HLEN.out | exact HLEN1.out | (simp only [List.length_set]; first | exact HLEN.out | exact HLEN1.out))))) ?_)
      | ((first
        | ((with_reducible refine at_store 49 _ _ rfl ?_); refine mem_store_wide 49 _ _ rfl rfl rfl rfl (by with_reducible repeat first | exact HM.out | exact ph | apply pt | apply Mem.drew | apply Mem.alloc | apply Mem.set | apply Mem.allocO | (simp only [World.size_alloc, World.size_setCell, World.size_drew]; rfl) | rfl) (by with_reducible repeat first | exact ph | apply pt) infoRJ (by first | rfl | exact HLEN.out | exact HLEN1.out | (simp only [List.length_set]; first | exact HLEN.out | exact HLEN1.out)) (by first | rfl | exact HLEN.out | exact HLEN1.out | (simp only [List.length_set]; first | exact HLEN.out | exact HLEN1.out)) (by (repeat refine one_set ?_ rfl _); first | exact HONE.out | exact HONE1.out) ?_; intro w9 M)
        | ((with_reducible refine at_box 49 _ rfl ?_); refine mem_box_wide 49 _ rfl rfl rfl (by with_reducible repeat first | exact HM.out | exact ph | apply pt | apply Mem.drew | apply Mem.alloc | apply Mem.set | apply Mem.allocO | (simp only [World.size_alloc, World.size_setCell, World.size_drew]; rfl) | rfl) ?_; intro w9 n9 M)
        | ((with_reducible refine at_alloc 49 rfl ?_); refine mem_alloc_wide 49 rfl rfl (zeroRJ _) (by with_reducible repeat first | exact HM.out | exact ph | apply pt | apply Mem.drew | apply Mem.alloc | apply Mem.set | apply Mem.allocO | (simp only [World.size_alloc, World.size_setCell, World.size_drew]; rfl) | rfl) ?_; intro w9 n9 M)); (try simp only [List.set_cons_zero, List.set_cons_succ] at M); replace HM := Lib.hid M; clear M; clear fM; have fM := HM.out.facts; simp only [seeS, talkR_tag, rowR_tag] at fM)))
  all_goals clear fM
  first | apply Mem.call | apply Mem.postD | apply Mem.stop | apply Mem.toUpd | apply Mem.list | apply Mem.code | apply Mem.post | apply Mem.postM
  · with_reducible repeat first | exact HM.out | exact ph | apply pt | apply Mem.drew | apply Mem.alloc | apply Mem.set | apply Mem.allocO | (simp only [World.size_alloc, World.size_setCell, World.size_drew]; rfl) | rfl
  intro w1 M
  try simp only [List.set_cons_zero, List.set_cons_succ] at M
  replace HM := Lib.hid M
  clear M
  rw [← HXV.out]
  refine (rmay_any w1 J cs x (HR.out.ext HM.out.extTo) HTX.out).mono ?_
  rintro r w2 ⟨rfl, hE⟩
  rw [HMM.out]
  replace HM := Lib.hid (HM.out.ext hE)
  clear hE
  have fM := HM.out.facts
  simp only [seeS, talkR_tag, rowR_tag] at fM
  go_wp2_with (first
    | ((with_reducible refine at_list ?_); first
      | ((with_reducible refine at_load 49 _ rfl ?_); refine mem_load_wide 49 _ rfl rfl rfl (by with_reducible repeat first | exact HM.out | exact ph | apply pt | apply Mem.drew | apply Mem.alloc | apply Mem.set | apply Mem.allocO | (simp only [World.size_alloc, World.size_setCell, World.size_drew]; rfl) | rfl) (by with_reducible repeat first | exact ph | apply pt) Tryd.underlying49 rfl (infoRJ.trans (congrArg some (Eq.symm (by first | rfl | exact HLEN.out | exact HLEN1.out | (simp only [List.length_set]; first | exact HLEN.out | exact HLEN1.out))))) ?_)
      | ((first
        | ((with_reducible refine at_store 49 _ _ rfl ?_); refine mem_store_wide 49 _ _ rfl rfl rfl rfl (by with_reducible repeat first | exact HM.out | exact ph | apply pt | apply Mem.drew | apply Mem.alloc | apply Mem.set | apply Mem.allocO | (simp only [World.size_alloc, World.size_setCell, World.size_drew]; rfl) | rfl) (by with_reducible repeat first | exact ph | apply pt) infoRJ (by first | rfl | exact HLEN.out | exact HLEN1.out | (simp only [List.length_set]; first | exact HLEN.out | exact HLEN1.out)) (by first | rfl | exact HLEN.out | exact HLEN1.out | (simp only [List.length_set]; first | exact HLEN.out | exact HLEN1.out)) (by (repeat refine one_set ?_ rfl _); first | exact HONE.out | exact HONE1.out) ?_; intro w9 M)
        | ((with_reducible refine at_box 49 _ rfl ?_); refine mem_box_wide 49 _ rfl rfl rfl (by with_reducible repeat first | exact HM.out | exact ph | apply pt | apply Mem.drew | apply Mem.alloc | apply Mem.set | apply Mem.allocO | (simp only [World.size_alloc, World.size_setCell, World.size_drew]; rfl) | rfl) ?_; intro w9 n9 M)
        | ((with_reducible refine at_alloc 49 rfl ?_); refine mem_alloc_wide 49 rfl rfl (zeroRJ _) (by with_reducible repeat first | exact HM.out | exact ph | apply pt | apply Mem.drew | apply Mem.alloc | apply Mem.set | apply Mem.allocO | (simp only [World.size_alloc, World.size_setCell, World.size_drew]; rfl) | rfl) ?_; intro w9 n9 M)); (try simp only [List.set_cons_zero, List.set_cons_succ] at M); replace HM := Lib.hid M; clear M; clear fM; have fM := HM.out.facts; simp only [seeS, talkR_tag, rowR_tag] at fM)))
  all_goals clear fM
  refine bodyPost_ret (results_ct Tryd.results13 _ rfl (loadVar_wide 49 (by with_reducible repeat first | exact HM.out | exact ph | apply pt | apply Mem.drew | apply Mem.alloc | apply Mem.set | apply Mem.allocO | (simp only [World.size_alloc, World.size_setCell, World.size_drew]; rfl) | rfl) (by with_reducible repeat first | exact ph | apply pt) Tryd.underlying49 rfl (infoRJ.trans (congrArg some (Eq.symm (by first | rfl | exact HLEN.out | exact HLEN1.out | (simp only [List.length_set]; first | exact HLEN.out | exact HLEN1.out))))))) rfl ?_
  rw [HQ.out]
  refine ⟨_, rfl, ((HR.out).ext ?_).mono (fun k hk => .inl hk), ?_⟩ <;> (apply Mem.extTo; with_reducible repeat first | exact HM.out | exact ph | apply pt | apply Mem.drew | apply Mem.alloc | apply Mem.set | apply Mem.allocO | (simp only [World.size_alloc, World.size_setCell, World.size_drew]; rfl) | rfl)
theorem rsee_6 {A : Nat → Prop} (w : World) (J : JA) (cs : List Value) (p : Nat) (index : Int) (e : En) (h : RefAt w A J cs) (hA : ∀ k, A k → k < w.heap.size) (hok : OkR J) (ht : e.text.length ≤ 500000) (hp : p < 16) (hm : mayE J ⟨6, p, index, e⟩ = 0) : SeeC w A J cs ⟨6, p, index, e⟩ := by
  have hlt0 : ∀ k, A k → k < w.heap.size := hA
  obtain ⟨al, cl, ap, cp, hlen, hone, -, -, -, c3, cT, -, c29, c30, hvl, hvp⟩ := h.open
  have HR := Lib.hid h
  have HV := Lib.hid hvp
  have HLEN := Lib.hid hlen
  have HONE := Lib.hid hone
  have HOK := Lib.hid hok
  have HTX := Lib.hid ht
  have HLT := Lib.hid hlt0
  have HM := Lib.hid (Mem.start0 w)
  have HP := Lib.hid hp
  clear hp
  have hkr : kindsR J ⟨6, p, index, e⟩ = wentR J p index := by simp [kindsR]
  have HKR := Lib.hid hkr
  clear hkr
  unfold SeeC
  have HXV := Lib.hid (show (⟨6, p, index, e⟩ : Sn).v = .agg #[.int .i64 6, .int .i64 (p : Int), .int .i64 index, .int .i64 e.kind, .int .i64 e.member, .int .i64 e.number, .string (bs e.text)] from rfl)
  rw [HXV.out]
  have HMM := Lib.hid hm
  clear h hA hok ht hlt0 hlen hone cT c29 hvl hvp hm
  go_enter Tryd.func13, Tryd.ntmps13
  have fM := HM.out.facts
  simp only [seeS, talkR_tag, rowR_tag] at fM
  go_wp2_with (first
    | ((with_reducible refine at_list ?_); first
      | ((with_reducible refine at_load 49 _ rfl ?_); refine mem_load_wide 49 _ rfl rfl rfl (by with_reducible repeat first | exact HM.out | exact ph | apply pt | apply Mem.drew | apply Mem.alloc | apply Mem.set | apply Mem.allocO | (simp only [World.size_alloc, World.size_setCell, World.size_drew]; rfl) | rfl) (by with_reducible repeat first | exact ph | apply pt) Tryd.underlying49 rfl (infoRJ.trans (congrArg some (Eq.symm (by first | rfl | exact HLEN.out | exact HLEN1.out | (simp only [List.length_set]; first | exact HLEN.out | exact HLEN1.out))))) ?_)
      | ((first
        | ((with_reducible refine at_store 49 _ _ rfl ?_); refine mem_store_wide 49 _ _ rfl rfl rfl rfl (by with_reducible repeat first | exact HM.out | exact ph | apply pt | apply Mem.drew | apply Mem.alloc | apply Mem.set | apply Mem.allocO | (simp only [World.size_alloc, World.size_setCell, World.size_drew]; rfl) | rfl) (by with_reducible repeat first | exact ph | apply pt) infoRJ (by first | rfl | exact HLEN.out | exact HLEN1.out | (simp only [List.length_set]; first | exact HLEN.out | exact HLEN1.out)) (by first | rfl | exact HLEN.out | exact HLEN1.out | (simp only [List.length_set]; first | exact HLEN.out | exact HLEN1.out)) (by (repeat refine one_set ?_ rfl _); first | exact HONE.out | exact HONE1.out) ?_; intro w9 M)
        | ((with_reducible refine at_box 49 _ rfl ?_); refine mem_box_wide 49 _ rfl rfl rfl (by with_reducible repeat first | exact HM.out | exact ph | apply pt | apply Mem.drew | apply Mem.alloc | apply Mem.set | apply Mem.allocO | (simp only [World.size_alloc, World.size_setCell, World.size_drew]; rfl) | rfl) ?_; intro w9 n9 M)
        | ((with_reducible refine at_alloc 49 rfl ?_); refine mem_alloc_wide 49 rfl rfl (zeroRJ _) (by with_reducible repeat first | exact HM.out | exact ph | apply pt | apply Mem.drew | apply Mem.alloc | apply Mem.set | apply Mem.allocO | (simp only [World.size_alloc, World.size_setCell, World.size_drew]; rfl) | rfl) ?_; intro w9 n9 M)); (try simp only [List.set_cons_zero, List.set_cons_succ] at M); replace HM := Lib.hid M; clear M; clear fM; have fM := HM.out.facts; simp only [seeS, talkR_tag, rowR_tag] at fM)))
  all_goals clear fM
  first | apply Mem.call | apply Mem.postD | apply Mem.stop | apply Mem.toUpd | apply Mem.list | apply Mem.code | apply Mem.post | apply Mem.postM
  · with_reducible repeat first | exact HM.out | exact ph | apply pt | apply Mem.drew | apply Mem.alloc | apply Mem.set | apply Mem.allocO | (simp only [World.size_alloc, World.size_setCell, World.size_drew]; rfl) | rfl
  intro w1 M
  try simp only [List.set_cons_zero, List.set_cons_succ] at M
  replace HM := Lib.hid M
  clear M
  rw [← HXV.out]
  refine (rmay_any w1 J cs ⟨6, p, index, e⟩ (HR.out.ext HM.out.extTo) HTX.out).mono ?_
  rintro r w2 ⟨rfl, hE⟩
  rw [HMM.out]
  replace HM := Lib.hid (HM.out.ext hE)
  clear hE
  have fM := HM.out.facts
  simp only [seeS, talkR_tag, rowR_tag] at fM
  go_wp2_with (first
    | ((with_reducible refine at_list ?_); first
      | ((with_reducible refine at_load 49 _ rfl ?_); refine mem_load_wide 49 _ rfl rfl rfl (by with_reducible repeat first | exact HM.out | exact ph | apply pt | apply Mem.drew | apply Mem.alloc | apply Mem.set | apply Mem.allocO | (simp only [World.size_alloc, World.size_setCell, World.size_drew]; rfl) | rfl) (by with_reducible repeat first | exact ph | apply pt) Tryd.underlying49 rfl (infoRJ.trans (congrArg some (Eq.symm (by first | rfl | exact HLEN.out | exact HLEN1.out | (simp only [List.length_set]; first | exact HLEN.out | exact HLEN1.out))))) ?_)
      | ((first
        | ((with_reducible refine at_store 49 _ _ rfl ?_); refine mem_store_wide 49 _ _ rfl rfl rfl rfl (by with_reducible repeat first | exact HM.out | exact ph | apply pt | apply Mem.drew | apply Mem.alloc | apply Mem.set | apply Mem.allocO | (simp only [World.size_alloc, World.size_setCell, World.size_drew]; rfl) | rfl) (by with_reducible repeat first | exact ph | apply pt) infoRJ (by first | rfl | exact HLEN.out | exact HLEN1.out | (simp only [List.length_set]; first | exact HLEN.out | exact HLEN1.out)) (by first | rfl | exact HLEN.out | exact HLEN1.out | (simp only [List.length_set]; first | exact HLEN.out | exact HLEN1.out)) (by (repeat refine one_set ?_ rfl _); first | exact HONE.out | exact HONE1.out) ?_; intro w9 M)
        | ((with_reducible refine at_box 49 _ rfl ?_); refine mem_box_wide 49 _ rfl rfl rfl (by with_reducible repeat first | exact HM.out | exact ph | apply pt | apply Mem.drew | apply Mem.alloc | apply Mem.set | apply Mem.allocO | (simp only [World.size_alloc, World.size_setCell, World.size_drew]; rfl) | rfl) ?_; intro w9 n9 M)
        | ((with_reducible refine at_alloc 49 rfl ?_); refine mem_alloc_wide 49 rfl rfl (zeroRJ _) (by with_reducible repeat first | exact HM.out | exact ph | apply pt | apply Mem.drew | apply Mem.alloc | apply Mem.set | apply Mem.allocO | (simp only [World.size_alloc, World.size_setCell, World.size_drew]; rfl) | rfl) ?_; intro w9 n9 M)); (try simp only [List.set_cons_zero, List.set_cons_succ] at M); replace HM := Lib.hid M; clear M; clear fM; have fM := HM.out.facts; simp only [seeS, talkR_tag, rowR_tag] at fM)))
  all_goals clear fM
  first | apply Mem.call | apply Mem.postD | apply Mem.stop | apply Mem.toUpd | apply Mem.list | apply Mem.code | apply Mem.post | apply Mem.postM
  · with_reducible repeat first | exact HM.out | exact ph | apply pt | apply Mem.drew | apply Mem.alloc | apply Mem.set | apply Mem.allocO | (simp only [World.size_alloc, World.size_setCell, World.size_drew]; rfl) | rfl
  intro w3 M
  try simp only [List.set_cons_zero, List.set_cons_succ] at M
  replace HM := Lib.hid M
  clear M
  rw [← HXV.out]
  refine (rwent_any w3 J cs p index e (HR.out.ext HM.out.extTo) HP.out).mono ?_
  rintro r w4 ⟨cs', rfl, hR', hE⟩
  obtain ⟨-, -, -, -, hlen', hone', -⟩ := hR'.open
  have HLEN1 := Lib.hid hlen'
  have HONE1 := Lib.hid hone'
  have HR1 := Lib.hid hR'
  have HE4 := Lib.hid (HM.out.extTo.ext hE)
  have H3 := Lib.hid HM.out.extTo.size
  replace HM := Lib.hid (Mem.restart HM.out hE)
  obtain ⟨z, hz⟩ : ∃ z, (wentR J p index).2 = z := ⟨_, rfl⟩
  rw [hz]
  have HZ := Lib.hid hz
  clear hE hR' hlen' hone' hz
  by_cases h0 : z = 0
  · have HQ : Hid (seeR J ⟨6, p, index, e⟩ = ((wentR J p index).1, 0)) := Lib.hid (by rw [seeR_ok HMM.out (by rw [HKR.out, HZ.out]; exact h0), HKR.out])
    subst h0
    have fM := HM.out.facts
    simp only [seeS, talkR_tag, rowR_tag] at fM
    go_wp2_with (first
      | ((with_reducible refine at_list ?_); first
        | ((with_reducible refine at_load 49 _ rfl ?_); refine mem_load_wide 49 _ rfl rfl rfl (by with_reducible repeat first | exact HM.out | exact ph | apply pt | apply Mem.drew | apply Mem.alloc | apply Mem.set | apply Mem.allocO | (simp only [World.size_alloc, World.size_setCell, World.size_drew]; rfl) | rfl) (by with_reducible repeat first | exact ph | apply pt) Tryd.underlying49 rfl (infoRJ.trans (congrArg some (Eq.symm (by first | rfl | exact HLEN.out | exact HLEN1.out | (simp only [List.length_set]; first | exact HLEN.out | exact HLEN1.out))))) ?_)
        | ((first
          | ((with_reducible refine at_store 49 _ _ rfl ?_); refine mem_store_wide 49 _ _ rfl rfl rfl rfl (by with_reducible repeat first | exact HM.out | exact ph | apply pt | apply Mem.drew | apply Mem.alloc | apply Mem.set | apply Mem.allocO | (simp only [World.size_alloc, World.size_setCell, World.size_drew]; rfl) | rfl) (by with_reducible repeat first | exact ph | apply pt) infoRJ (by first | rfl | exact HLEN.out | exact HLEN1.out | (simp only [List.length_set]; first | exact HLEN.out | exact HLEN1.out)) (by first | rfl | exact HLEN.out | exact HLEN1.out | (simp only [List.length_set]; first | exact HLEN.out | exact HLEN1.out)) (by (repeat refine one_set ?_ rfl _); first | exact HONE.out | exact HONE1.out) ?_; intro w9 M)
          | ((with_reducible refine at_box 49 _ rfl ?_); refine mem_box_wide 49 _ rfl rfl rfl (by with_reducible repeat first | exact HM.out | exact ph | apply pt | apply Mem.drew | apply Mem.alloc | apply Mem.set | apply Mem.allocO | (simp only [World.size_alloc, World.size_setCell, World.size_drew]; rfl) | rfl) ?_; intro w9 n9 M)
          | ((with_reducible refine at_alloc 49 rfl ?_); refine mem_alloc_wide 49 rfl rfl (zeroRJ _) (by with_reducible repeat first | exact HM.out | exact ph | apply pt | apply Mem.drew | apply Mem.alloc | apply Mem.set | apply Mem.allocO | (simp only [World.size_alloc, World.size_setCell, World.size_drew]; rfl) | rfl) ?_; intro w9 n9 M)); (try simp only [List.set_cons_zero, List.set_cons_succ] at M); replace HM := Lib.hid M; clear M; clear fM; have fM := HM.out.facts; simp only [seeS, talkR_tag, rowR_tag] at fM)))
    all_goals clear fM
    first | apply Mem.call | apply Mem.postD | apply Mem.stop | apply Mem.toUpd | apply Mem.list | apply Mem.code | apply Mem.post | apply Mem.postM
    · with_reducible repeat first | exact HM.out | exact ph | apply pt | apply Mem.drew | apply Mem.alloc | apply Mem.set | apply Mem.allocO | (simp only [World.size_alloc, World.size_setCell, World.size_drew]; rfl) | rfl
    intro w5 M
    try simp only [List.set_cons_zero, List.set_cons_succ] at M
    replace HM := Lib.hid M
    clear M
    refine bodyPost_ret (results_ct Tryd.results13 _ rfl (loadVar_wide 49 (by with_reducible repeat first | exact HM.out | exact ph | apply pt | apply Mem.drew | apply Mem.alloc | apply Mem.set | apply Mem.allocO | (simp only [World.size_alloc, World.size_setCell, World.size_drew]; rfl) | rfl) (by with_reducible repeat first | exact ph | apply pt) Tryd.underlying49 rfl (infoRJ.trans (congrArg some (Eq.symm (by first | rfl | exact HLEN.out | exact HLEN1.out | (simp only [List.length_set]; first | exact HLEN.out | exact HLEN1.out))))))) rfl ?_
    rw [HQ.out]
    have h3 := H3.out
    have hl := HLT.out
    refine ⟨_, rfl, (RefAt.keeps HR1.out HM.out.keepsTo fun k hk h9 => ?_).mono fun k hk => ?_, HE4.out.then HM.out.keepsTo fun k hk h9 => absurd h9.1 (by omega)⟩
    · obtain ⟨h91, h92⟩ := h9
      have := hl k hk; omega
    · exact .inl hk
  · have h0' : (z != 0) = true := by simpa using h0
    have HQ : Hid (seeR J ⟨6, p, index, e⟩ = ({ J with broken := wrap64 (J.broken + 1) }, z)) := Lib.hid (by rw [seeR_bad HMM.out (by rw [HKR.out, HZ.out]; exact h0), HKR.out, HZ.out])
    clear h0
    have fM := HM.out.facts
    simp only [seeS, talkR_tag, rowR_tag] at fM
    go_wp2_with (first
      | ((with_reducible refine at_list ?_); first
        | ((with_reducible refine at_load 49 _ rfl ?_); refine mem_load_wide 49 _ rfl rfl rfl (by with_reducible repeat first | exact HM.out | exact ph | apply pt | apply Mem.drew | apply Mem.alloc | apply Mem.set | apply Mem.allocO | (simp only [World.size_alloc, World.size_setCell, World.size_drew]; rfl) | rfl) (by with_reducible repeat first | exact ph | apply pt) Tryd.underlying49 rfl (infoRJ.trans (congrArg some (Eq.symm (by first | rfl | exact HLEN.out | exact HLEN1.out | (simp only [List.length_set]; first | exact HLEN.out | exact HLEN1.out))))) ?_)
        | ((first
          | ((with_reducible refine at_store 49 _ _ rfl ?_); refine mem_store_wide 49 _ _ rfl rfl rfl rfl (by with_reducible repeat first | exact HM.out | exact ph | apply pt | apply Mem.drew | apply Mem.alloc | apply Mem.set | apply Mem.allocO | (simp only [World.size_alloc, World.size_setCell, World.size_drew]; rfl) | rfl) (by with_reducible repeat first | exact ph | apply pt) infoRJ (by first | rfl | exact HLEN.out | exact HLEN1.out | (simp only [List.length_set]; first | exact HLEN.out | exact HLEN1.out)) (by first | rfl | exact HLEN.out | exact HLEN1.out | (simp only [List.length_set]; first | exact HLEN.out | exact HLEN1.out)) (by (repeat refine one_set ?_ rfl _); first | exact HONE.out | exact HONE1.out) ?_; intro w9 M)
          | ((with_reducible refine at_box 49 _ rfl ?_); refine mem_box_wide 49 _ rfl rfl rfl (by with_reducible repeat first | exact HM.out | exact ph | apply pt | apply Mem.drew | apply Mem.alloc | apply Mem.set | apply Mem.allocO | (simp only [World.size_alloc, World.size_setCell, World.size_drew]; rfl) | rfl) ?_; intro w9 n9 M)
          | ((with_reducible refine at_alloc 49 rfl ?_); refine mem_alloc_wide 49 rfl rfl (zeroRJ _) (by with_reducible repeat first | exact HM.out | exact ph | apply pt | apply Mem.drew | apply Mem.alloc | apply Mem.set | apply Mem.allocO | (simp only [World.size_alloc, World.size_setCell, World.size_drew]; rfl) | rfl) ?_; intro w9 n9 M)); (try simp only [List.set_cons_zero, List.set_cons_succ] at M); replace HM := Lib.hid M; clear M; clear fM; have fM := HM.out.facts; simp only [seeS, talkR_tag, rowR_tag] at fM)))
    all_goals clear fM
    first | apply Mem.call | apply Mem.postD | apply Mem.stop | apply Mem.toUpd | apply Mem.list | apply Mem.code | apply Mem.post | apply Mem.postM
    · with_reducible repeat first | exact HM.out | exact ph | apply pt | apply Mem.drew | apply Mem.alloc | apply Mem.set | apply Mem.allocO | (simp only [World.size_alloc, World.size_setCell, World.size_drew]; rfl) | rfl
    intro w5 M
    try simp only [List.set_cons_zero, List.set_cons_succ] at M
    replace HM := Lib.hid M
    clear M
    refine bodyPost_ret (results_ct Tryd.results13 _ rfl (loadVar_wide 49 (by with_reducible repeat first | exact HM.out | exact ph | apply pt | apply Mem.drew | apply Mem.alloc | apply Mem.set | apply Mem.allocO | (simp only [World.size_alloc, World.size_setCell, World.size_drew]; rfl) | rfl) (by with_reducible repeat first | exact ph | apply pt) Tryd.underlying49 rfl (infoRJ.trans (congrArg some (Eq.symm (by first | rfl | exact HLEN.out | exact HLEN1.out | (simp only [List.length_set]; first | exact HLEN.out | exact HLEN1.out))))))) rfl ?_
    rw [HQ.out]
    have HE5 := HE4.out.then HM.out.keepsTo fun k hk h9 => absurd h9.1 (by omega)
    exact ⟨_, rfl, ((HR.out.setBroken (wrap64 (J.broken + 1))).ext HE5).mono (fun k hk => .inl hk), HE5⟩
theorem OkR.len {J : JA} (h : OkR J) : J.T.l.length ≤ 4096 := by have := h.slot; have := h.slot4; omega
theorem rsee_4 {A : Nat → Prop} (w : World) (J : JA) (cs : List Value) (p : Nat) (index : Int) (e : En) (h : RefAt w A J cs) (hA : ∀ k, A k → k < w.heap.size) (hok : OkR J) (ht : e.text.length ≤ 500000) (hp : p < 16) (hi : 0 ≤ index) (hm : mayE J ⟨4, p, index, e⟩ = 0) : SeeC w A J cs ⟨4, p, index, e⟩ := by
  have hlt0 : ∀ k, A k → k < w.heap.size := hA
  obtain ⟨al, cl, ap, cp, hlen, hone, -, -, -, c3, cT, -, c29, c30, hvl, hvp⟩ := h.open
  have HR := Lib.hid h
  have HV := Lib.hid hvp
  have HLEN := Lib.hid hlen
  have HONE := Lib.hid hone
  have HOK := Lib.hid hok
  have HTX := Lib.hid ht
  have HLT := Lib.hid hlt0
  have HM := Lib.hid (Mem.start0 w)
  have HP := Lib.hid hp
  have HI := Lib.hid hi
  clear hp hi
  have hkr : kindsR J ⟨4, p, index, e⟩ = beganR J p index := by simp [kindsR]
  have HKR := Lib.hid hkr
  clear hkr
  unfold SeeC
  have HXV := Lib.hid (show (⟨4, p, index, e⟩ : Sn).v = .agg #[.int .i64 4, .int .i64 (p : Int), .int .i64 index, .int .i64 e.kind, .int .i64 e.member, .int .i64 e.number, .string (bs e.text)] from rfl)
  rw [HXV.out]
  have HMM := Lib.hid hm
  clear h hA hok ht hlt0 hlen hone cT c29 hvl hvp hm
  go_enter Tryd.func13, Tryd.ntmps13
  have fM := HM.out.facts
  simp only [seeS, talkR_tag, rowR_tag] at fM
  go_wp2_with (first
    | ((with_reducible refine at_list ?_); first
      | ((with_reducible refine at_load 49 _ rfl ?_); refine mem_load_wide 49 _ rfl rfl rfl (by with_reducible repeat first | exact HM.out | exact ph | apply pt | apply Mem.drew | apply Mem.alloc | apply Mem.set | apply Mem.allocO | (simp only [World.size_alloc, World.size_setCell, World.size_drew]; rfl) | rfl) (by with_reducible repeat first | exact ph | apply pt) Tryd.underlying49 rfl (infoRJ.trans (congrArg some (Eq.symm (by first | rfl | exact HLEN.out | exact HLEN1.out | (simp only [List.length_set]; first | exact HLEN.out | exact HLEN1.out))))) ?_)
      | ((first
        | ((with_reducible refine at_store 49 _ _ rfl ?_); refine mem_store_wide 49 _ _ rfl rfl rfl rfl (by with_reducible repeat first | exact HM.out | exact ph | apply pt | apply Mem.drew | apply Mem.alloc | apply Mem.set | apply Mem.allocO | (simp only [World.size_alloc, World.size_setCell, World.size_drew]; rfl) | rfl) (by with_reducible repeat first | exact ph | apply pt) infoRJ (by first | rfl | exact HLEN.out | exact HLEN1.out | (simp only [List.length_set]; first | exact HLEN.out | exact HLEN1.out)) (by first | rfl | exact HLEN.out | exact HLEN1.out | (simp only [List.length_set]; first | exact HLEN.out | exact HLEN1.out)) (by (repeat refine one_set ?_ rfl _); first | exact HONE.out | exact HONE1.out) ?_; intro w9 M)
        | ((with_reducible refine at_box 49 _ rfl ?_); refine mem_box_wide 49 _ rfl rfl rfl (by with_reducible repeat first | exact HM.out | exact ph | apply pt | apply Mem.drew | apply Mem.alloc | apply Mem.set | apply Mem.allocO | (simp only [World.size_alloc, World.size_setCell, World.size_drew]; rfl) | rfl) ?_; intro w9 n9 M)
        | ((with_reducible refine at_alloc 49 rfl ?_); refine mem_alloc_wide 49 rfl rfl (zeroRJ _) (by with_reducible repeat first | exact HM.out | exact ph | apply pt | apply Mem.drew | apply Mem.alloc | apply Mem.set | apply Mem.allocO | (simp only [World.size_alloc, World.size_setCell, World.size_drew]; rfl) | rfl) ?_; intro w9 n9 M)); (try simp only [List.set_cons_zero, List.set_cons_succ] at M); replace HM := Lib.hid M; clear M; clear fM; have fM := HM.out.facts; simp only [seeS, talkR_tag, rowR_tag] at fM)))
  all_goals clear fM
  first | apply Mem.call | apply Mem.postD | apply Mem.stop | apply Mem.toUpd | apply Mem.list | apply Mem.code | apply Mem.post | apply Mem.postM
  · with_reducible repeat first | exact HM.out | exact ph | apply pt | apply Mem.drew | apply Mem.alloc | apply Mem.set | apply Mem.allocO | (simp only [World.size_alloc, World.size_setCell, World.size_drew]; rfl) | rfl
  intro w1 M
  try simp only [List.set_cons_zero, List.set_cons_succ] at M
  replace HM := Lib.hid M
  clear M
  rw [← HXV.out]
  refine (rmay_any w1 J cs ⟨4, p, index, e⟩ (HR.out.ext HM.out.extTo) HTX.out).mono ?_
  rintro r w2 ⟨rfl, hE⟩
  rw [HMM.out]
  replace HM := Lib.hid (HM.out.ext hE)
  clear hE
  have fM := HM.out.facts
  simp only [seeS, talkR_tag, rowR_tag] at fM
  go_wp2_with (first
    | ((with_reducible refine at_list ?_); first
      | ((with_reducible refine at_load 49 _ rfl ?_); refine mem_load_wide 49 _ rfl rfl rfl (by with_reducible repeat first | exact HM.out | exact ph | apply pt | apply Mem.drew | apply Mem.alloc | apply Mem.set | apply Mem.allocO | (simp only [World.size_alloc, World.size_setCell, World.size_drew]; rfl) | rfl) (by with_reducible repeat first | exact ph | apply pt) Tryd.underlying49 rfl (infoRJ.trans (congrArg some (Eq.symm (by first | rfl | exact HLEN.out | exact HLEN1.out | (simp only [List.length_set]; first | exact HLEN.out | exact HLEN1.out))))) ?_)
      | ((first
        | ((with_reducible refine at_store 49 _ _ rfl ?_); refine mem_store_wide 49 _ _ rfl rfl rfl rfl (by with_reducible repeat first | exact HM.out | exact ph | apply pt | apply Mem.drew | apply Mem.alloc | apply Mem.set | apply Mem.allocO | (simp only [World.size_alloc, World.size_setCell, World.size_drew]; rfl) | rfl) (by with_reducible repeat first | exact ph | apply pt) infoRJ (by first | rfl | exact HLEN.out | exact HLEN1.out | (simp only [List.length_set]; first | exact HLEN.out | exact HLEN1.out)) (by first | rfl | exact HLEN.out | exact HLEN1.out | (simp only [List.length_set]; first | exact HLEN.out | exact HLEN1.out)) (by (repeat refine one_set ?_ rfl _); first | exact HONE.out | exact HONE1.out) ?_; intro w9 M)
        | ((with_reducible refine at_box 49 _ rfl ?_); refine mem_box_wide 49 _ rfl rfl rfl (by with_reducible repeat first | exact HM.out | exact ph | apply pt | apply Mem.drew | apply Mem.alloc | apply Mem.set | apply Mem.allocO | (simp only [World.size_alloc, World.size_setCell, World.size_drew]; rfl) | rfl) ?_; intro w9 n9 M)
        | ((with_reducible refine at_alloc 49 rfl ?_); refine mem_alloc_wide 49 rfl rfl (zeroRJ _) (by with_reducible repeat first | exact HM.out | exact ph | apply pt | apply Mem.drew | apply Mem.alloc | apply Mem.set | apply Mem.allocO | (simp only [World.size_alloc, World.size_setCell, World.size_drew]; rfl) | rfl) ?_; intro w9 n9 M)); (try simp only [List.set_cons_zero, List.set_cons_succ] at M); replace HM := Lib.hid M; clear M; clear fM; have fM := HM.out.facts; simp only [seeS, talkR_tag, rowR_tag] at fM)))
  all_goals clear fM
  first | apply Mem.call | apply Mem.postD | apply Mem.stop | apply Mem.toUpd | apply Mem.list | apply Mem.code | apply Mem.post | apply Mem.postM
  · with_reducible repeat first | exact HM.out | exact ph | apply pt | apply Mem.drew | apply Mem.alloc | apply Mem.set | apply Mem.allocO | (simp only [World.size_alloc, World.size_setCell, World.size_drew]; rfl) | rfl
  intro w3 M
  try simp only [List.set_cons_zero, List.set_cons_succ] at M
  replace HM := Lib.hid M
  clear M
  rw [← HXV.out]
  refine (rbegan_any w3 J cs p index e (HR.out.ext HM.out.extTo) HP.out HI.out HOK.out.len).mono ?_
  rintro r w4 ⟨cs', rfl, hR', hE⟩
  obtain ⟨-, -, -, -, hlen', hone', -⟩ := hR'.open
  have HLEN1 := Lib.hid hlen'
  have HONE1 := Lib.hid hone'
  have HR1 := Lib.hid hR'
  have HE4 := Lib.hid (HM.out.extTo.ext hE)
  have H3 := Lib.hid HM.out.extTo.size
  replace HM := Lib.hid (Mem.restart HM.out hE)
  obtain ⟨z, hz⟩ : ∃ z, (beganR J p index).2 = z := ⟨_, rfl⟩
  rw [hz]
  have HZ := Lib.hid hz
  clear hE hR' hlen' hone' hz
  by_cases h0 : z = 0
  · have HQ : Hid (seeR J ⟨4, p, index, e⟩ = ((beganR J p index).1, 0)) := Lib.hid (by rw [seeR_ok HMM.out (by rw [HKR.out, HZ.out]; exact h0), HKR.out])
    subst h0
    have fM := HM.out.facts
    simp only [seeS, talkR_tag, rowR_tag] at fM
    go_wp2_with (first
      | ((with_reducible refine at_list ?_); first
        | ((with_reducible refine at_load 49 _ rfl ?_); refine mem_load_wide 49 _ rfl rfl rfl (by with_reducible repeat first | exact HM.out | exact ph | apply pt | apply Mem.drew | apply Mem.alloc | apply Mem.set | apply Mem.allocO | (simp only [World.size_alloc, World.size_setCell, World.size_drew]; rfl) | rfl) (by with_reducible repeat first | exact ph | apply pt) Tryd.underlying49 rfl (infoRJ.trans (congrArg some (Eq.symm (by first | rfl | exact HLEN.out | exact HLEN1.out | (simp only [List.length_set]; first | exact HLEN.out | exact HLEN1.out))))) ?_)
        | ((first
          | ((with_reducible refine at_store 49 _ _ rfl ?_); refine mem_store_wide 49 _ _ rfl rfl rfl rfl (by with_reducible repeat first | exact HM.out | exact ph | apply pt | apply Mem.drew | apply Mem.alloc | apply Mem.set | apply Mem.allocO | (simp only [World.size_alloc, World.size_setCell, World.size_drew]; rfl) | rfl) (by with_reducible repeat first | exact ph | apply pt) infoRJ (by first | rfl | exact HLEN.out | exact HLEN1.out | (simp only [List.length_set]; first | exact HLEN.out | exact HLEN1.out)) (by first | rfl | exact HLEN.out | exact HLEN1.out | (simp only [List.length_set]; first | exact HLEN.out | exact HLEN1.out)) (by (repeat refine one_set ?_ rfl _); first | exact HONE.out | exact HONE1.out) ?_; intro w9 M)
          | ((with_reducible refine at_box 49 _ rfl ?_); refine mem_box_wide 49 _ rfl rfl rfl (by with_reducible repeat first | exact HM.out | exact ph | apply pt | apply Mem.drew | apply Mem.alloc | apply Mem.set | apply Mem.allocO | (simp only [World.size_alloc, World.size_setCell, World.size_drew]; rfl) | rfl) ?_; intro w9 n9 M)
          | ((with_reducible refine at_alloc 49 rfl ?_); refine mem_alloc_wide 49 rfl rfl (zeroRJ _) (by with_reducible repeat first | exact HM.out | exact ph | apply pt | apply Mem.drew | apply Mem.alloc | apply Mem.set | apply Mem.allocO | (simp only [World.size_alloc, World.size_setCell, World.size_drew]; rfl) | rfl) ?_; intro w9 n9 M)); (try simp only [List.set_cons_zero, List.set_cons_succ] at M); replace HM := Lib.hid M; clear M; clear fM; have fM := HM.out.facts; simp only [seeS, talkR_tag, rowR_tag] at fM)))
    all_goals clear fM
    first | apply Mem.call | apply Mem.postD | apply Mem.stop | apply Mem.toUpd | apply Mem.list | apply Mem.code | apply Mem.post | apply Mem.postM
    · with_reducible repeat first | exact HM.out | exact ph | apply pt | apply Mem.drew | apply Mem.alloc | apply Mem.set | apply Mem.allocO | (simp only [World.size_alloc, World.size_setCell, World.size_drew]; rfl) | rfl
    intro w5 M
    try simp only [List.set_cons_zero, List.set_cons_succ] at M
    replace HM := Lib.hid M
    clear M
    refine bodyPost_ret (results_ct Tryd.results13 _ rfl (loadVar_wide 49 (by with_reducible repeat first | exact HM.out | exact ph | apply pt | apply Mem.drew | apply Mem.alloc | apply Mem.set | apply Mem.allocO | (simp only [World.size_alloc, World.size_setCell, World.size_drew]; rfl) | rfl) (by with_reducible repeat first | exact ph | apply pt) Tryd.underlying49 rfl (infoRJ.trans (congrArg some (Eq.symm (by first | rfl | exact HLEN.out | exact HLEN1.out | (simp only [List.length_set]; first | exact HLEN.out | exact HLEN1.out))))))) rfl ?_
    rw [HQ.out]
    have h3 := H3.out
    have hl := HLT.out
    refine ⟨_, rfl, (RefAt.keeps HR1.out HM.out.keepsTo fun k hk h9 => ?_).mono fun k hk => ?_, HE4.out.then HM.out.keepsTo fun k hk h9 => absurd h9.1 (by omega)⟩
    · obtain ⟨h91, h92⟩ := h9
      have := hl k hk; omega
    · exact .inl hk
  · have h0' : (z != 0) = true := by simpa using h0
    have HQ : Hid (seeR J ⟨4, p, index, e⟩ = ({ J with broken := wrap64 (J.broken + 1) }, z)) := Lib.hid (by rw [seeR_bad HMM.out (by rw [HKR.out, HZ.out]; exact h0), HKR.out, HZ.out])
    clear h0
    have fM := HM.out.facts
    simp only [seeS, talkR_tag, rowR_tag] at fM
    go_wp2_with (first
      | ((with_reducible refine at_list ?_); first
        | ((with_reducible refine at_load 49 _ rfl ?_); refine mem_load_wide 49 _ rfl rfl rfl (by with_reducible repeat first | exact HM.out | exact ph | apply pt | apply Mem.drew | apply Mem.alloc | apply Mem.set | apply Mem.allocO | (simp only [World.size_alloc, World.size_setCell, World.size_drew]; rfl) | rfl) (by with_reducible repeat first | exact ph | apply pt) Tryd.underlying49 rfl (infoRJ.trans (congrArg some (Eq.symm (by first | rfl | exact HLEN.out | exact HLEN1.out | (simp only [List.length_set]; first | exact HLEN.out | exact HLEN1.out))))) ?_)
        | ((first
          | ((with_reducible refine at_store 49 _ _ rfl ?_); refine mem_store_wide 49 _ _ rfl rfl rfl rfl (by with_reducible repeat first | exact HM.out | exact ph | apply pt | apply Mem.drew | apply Mem.alloc | apply Mem.set | apply Mem.allocO | (simp only [World.size_alloc, World.size_setCell, World.size_drew]; rfl) | rfl) (by with_reducible repeat first | exact ph | apply pt) infoRJ (by first | rfl | exact HLEN.out | exact HLEN1.out | (simp only [List.length_set]; first | exact HLEN.out | exact HLEN1.out)) (by first | rfl | exact HLEN.out | exact HLEN1.out | (simp only [List.length_set]; first | exact HLEN.out | exact HLEN1.out)) (by (repeat refine one_set ?_ rfl _); first | exact HONE.out | exact HONE1.out) ?_; intro w9 M)
          | ((with_reducible refine at_box 49 _ rfl ?_); refine mem_box_wide 49 _ rfl rfl rfl (by with_reducible repeat first | exact HM.out | exact ph | apply pt | apply Mem.drew | apply Mem.alloc | apply Mem.set | apply Mem.allocO | (simp only [World.size_alloc, World.size_setCell, World.size_drew]; rfl) | rfl) ?_; intro w9 n9 M)
          | ((with_reducible refine at_alloc 49 rfl ?_); refine mem_alloc_wide 49 rfl rfl (zeroRJ _) (by with_reducible repeat first | exact HM.out | exact ph | apply pt | apply Mem.drew | apply Mem.alloc | apply Mem.set | apply Mem.allocO | (simp only [World.size_alloc, World.size_setCell, World.size_drew]; rfl) | rfl) ?_; intro w9 n9 M)); (try simp only [List.set_cons_zero, List.set_cons_succ] at M); replace HM := Lib.hid M; clear M; clear fM; have fM := HM.out.facts; simp only [seeS, talkR_tag, rowR_tag] at fM)))
    all_goals clear fM
    first | apply Mem.call | apply Mem.postD | apply Mem.stop | apply Mem.toUpd | apply Mem.list | apply Mem.code | apply Mem.post | apply Mem.postM
    · with_reducible repeat first | exact HM.out | exact ph | apply pt | apply Mem.drew | apply Mem.alloc | apply Mem.set | apply Mem.allocO | (simp only [World.size_alloc, World.size_setCell, World.size_drew]; rfl) | rfl
    intro w5 M
    try simp only [List.set_cons_zero, List.set_cons_succ] at M
    replace HM := Lib.hid M
    clear M
    refine bodyPost_ret (results_ct Tryd.results13 _ rfl (loadVar_wide 49 (by with_reducible repeat first | exact HM.out | exact ph | apply pt | apply Mem.drew | apply Mem.alloc | apply Mem.set | apply Mem.allocO | (simp only [World.size_alloc, World.size_setCell, World.size_drew]; rfl) | rfl) (by with_reducible repeat first | exact ph | apply pt) Tryd.underlying49 rfl (infoRJ.trans (congrArg some (Eq.symm (by first | rfl | exact HLEN.out | exact HLEN1.out | (simp only [List.length_set]; first | exact HLEN.out | exact HLEN1.out))))))) rfl ?_
    rw [HQ.out]
    have HE5 := HE4.out.then HM.out.keepsTo fun k hk h9 => absurd h9.1 (by omega)
    exact ⟨_, rfl, ((HR.out.setBroken (wrap64 (J.broken + 1))).ext HE5).mono (fun k hk => .inl hk), HE5⟩
theorem rsee_5 {A : Nat → Prop} (w : World) (J : JA) (cs : List Value) (p : Nat) (index : Int) (e : En) (h : RefAt w A J cs) (hA : ∀ k, A k → k < w.heap.size) (hok : OkR J) (ht : e.text.length ≤ 500000) (hp : p < 16) (hi : 0 ≤ index) (hm : mayE J ⟨5, p, index, e⟩ = 0) : SeeC w A J cs ⟨5, p, index, e⟩ := by
  have hlt0 : ∀ k, A k → k < w.heap.size := hA
  obtain ⟨al, cl, ap, cp, hlen, hone, -, -, -, c3, cT, -, c29, c30, hvl, hvp⟩ := h.open
  have HR := Lib.hid h
  have HV := Lib.hid hvp
  have HLEN := Lib.hid hlen
  have HONE := Lib.hid hone
  have HOK := Lib.hid hok
  have HTX := Lib.hid ht
  have HLT := Lib.hid hlt0
  have HM := Lib.hid (Mem.start0 w)
  have HP := Lib.hid hp
  have HI := Lib.hid hi
  clear hp hi
  have hkr : kindsR J ⟨5, p, index, e⟩ = toldR J p index e := by simp [kindsR]
  have HKR := Lib.hid hkr
  clear hkr
  unfold SeeC
  have HXV := Lib.hid (show (⟨5, p, index, e⟩ : Sn).v = .agg #[.int .i64 5, .int .i64 (p : Int), .int .i64 index, .int .i64 e.kind, .int .i64 e.member, .int .i64 e.number, .string (bs e.text)] from rfl)
  rw [HXV.out]
  have HMM := Lib.hid hm
  clear h hA hok ht hlt0 hlen hone cT c29 hvl hvp hm
  go_enter Tryd.func13, Tryd.ntmps13
  have fM := HM.out.facts
  simp only [seeS, talkR_tag, rowR_tag] at fM
  go_wp2_with (first
    | ((with_reducible refine at_list ?_); first
      | ((with_reducible refine at_load 49 _ rfl ?_); refine mem_load_wide 49 _ rfl rfl rfl (by with_reducible repeat first | exact HM.out | exact ph | apply pt | apply Mem.drew | apply Mem.alloc | apply Mem.set | apply Mem.allocO | (simp only [World.size_alloc, World.size_setCell, World.size_drew]; rfl) | rfl) (by with_reducible repeat first | exact ph | apply pt) Tryd.underlying49 rfl (infoRJ.trans (congrArg some (Eq.symm (by first | rfl | exact HLEN.out | exact HLEN1.out | (simp only [List.length_set]; first | exact HLEN.out | exact HLEN1.out))))) ?_)
      | ((first
        | ((with_reducible refine at_store 49 _ _ rfl ?_); refine mem_store_wide 49 _ _ rfl rfl rfl rfl (by with_reducible repeat first | exact HM.out | exact ph | apply pt | apply Mem.drew | apply Mem.alloc | apply Mem.set | apply Mem.allocO | (simp only [World.size_alloc, World.size_setCell, World.size_drew]; rfl) | rfl) (by with_reducible repeat first | exact ph | apply pt) infoRJ (by first | rfl | exact HLEN.out | exact HLEN1.out | (simp only [List.length_set]; first | exact HLEN.out | exact HLEN1.out)) (by first | rfl | exact HLEN.out | exact HLEN1.out | (simp only [List.length_set]; first | exact HLEN.out | exact HLEN1.out)) (by (repeat refine one_set ?_ rfl _); first | exact HONE.out | exact HONE1.out) ?_; intro w9 M)
        | ((with_reducible refine at_box 49 _ rfl ?_); refine mem_box_wide 49 _ rfl rfl rfl (by with_reducible repeat first | exact HM.out | exact ph | apply pt | apply Mem.drew | apply Mem.alloc | apply Mem.set | apply Mem.allocO | (simp only [World.size_alloc, World.size_setCell, World.size_drew]; rfl) | rfl) ?_; intro w9 n9 M)
        | ((with_reducible refine at_alloc 49 rfl ?_); refine mem_alloc_wide 49 rfl rfl (zeroRJ _) (by with_reducible repeat first | exact HM.out | exact ph | apply pt | apply Mem.drew | apply Mem.alloc | apply Mem.set | apply Mem.allocO | (simp only [World.size_alloc, World.size_setCell, World.size_drew]; rfl) | rfl) ?_; intro w9 n9 M)); (try simp only [List.set_cons_zero, List.set_cons_succ] at M); replace HM := Lib.hid M; clear M; clear fM; have fM := HM.out.facts; simp only [seeS, talkR_tag, rowR_tag] at fM)))
  all_goals clear fM
  first | apply Mem.call | apply Mem.postD | apply Mem.stop | apply Mem.toUpd | apply Mem.list | apply Mem.code | apply Mem.post | apply Mem.postM
  · with_reducible repeat first | exact HM.out | exact ph | apply pt | apply Mem.drew | apply Mem.alloc | apply Mem.set | apply Mem.allocO | (simp only [World.size_alloc, World.size_setCell, World.size_drew]; rfl) | rfl
  intro w1 M
  try simp only [List.set_cons_zero, List.set_cons_succ] at M
  replace HM := Lib.hid M
  clear M
  rw [← HXV.out]
  refine (rmay_any w1 J cs ⟨5, p, index, e⟩ (HR.out.ext HM.out.extTo) HTX.out).mono ?_
  rintro r w2 ⟨rfl, hE⟩
  rw [HMM.out]
  replace HM := Lib.hid (HM.out.ext hE)
  clear hE
  have fM := HM.out.facts
  simp only [seeS, talkR_tag, rowR_tag] at fM
  go_wp2_with (first
    | ((with_reducible refine at_list ?_); first
      | ((with_reducible refine at_load 49 _ rfl ?_); refine mem_load_wide 49 _ rfl rfl rfl (by with_reducible repeat first | exact HM.out | exact ph | apply pt | apply Mem.drew | apply Mem.alloc | apply Mem.set | apply Mem.allocO | (simp only [World.size_alloc, World.size_setCell, World.size_drew]; rfl) | rfl) (by with_reducible repeat first | exact ph | apply pt) Tryd.underlying49 rfl (infoRJ.trans (congrArg some (Eq.symm (by first | rfl | exact HLEN.out | exact HLEN1.out | (simp only [List.length_set]; first | exact HLEN.out | exact HLEN1.out))))) ?_)
      | ((first
        | ((with_reducible refine at_store 49 _ _ rfl ?_); refine mem_store_wide 49 _ _ rfl rfl rfl rfl (by with_reducible repeat first | exact HM.out | exact ph | apply pt | apply Mem.drew | apply Mem.alloc | apply Mem.set | apply Mem.allocO | (simp only [World.size_alloc, World.size_setCell, World.size_drew]; rfl) | rfl) (by with_reducible repeat first | exact ph | apply pt) infoRJ (by first | rfl | exact HLEN.out | exact HLEN1.out | (simp only [List.length_set]; first | exact HLEN.out | exact HLEN1.out)) (by first | rfl | exact HLEN.out | exact HLEN1.out | (simp only [List.length_set]; first | exact HLEN.out | exact HLEN1.out)) (by (repeat refine one_set ?_ rfl _); first | exact HONE.out | exact HONE1.out) ?_; intro w9 M)
        | ((with_reducible refine at_box 49 _ rfl ?_); refine mem_box_wide 49 _ rfl rfl rfl (by with_reducible repeat first | exact HM.out | exact ph | apply pt | apply Mem.drew | apply Mem.alloc | apply Mem.set | apply Mem.allocO | (simp only [World.size_alloc, World.size_setCell, World.size_drew]; rfl) | rfl) ?_; intro w9 n9 M)
        | ((with_reducible refine at_alloc 49 rfl ?_); refine mem_alloc_wide 49 rfl rfl (zeroRJ _) (by with_reducible repeat first | exact HM.out | exact ph | apply pt | apply Mem.drew | apply Mem.alloc | apply Mem.set | apply Mem.allocO | (simp only [World.size_alloc, World.size_setCell, World.size_drew]; rfl) | rfl) ?_; intro w9 n9 M)); (try simp only [List.set_cons_zero, List.set_cons_succ] at M); replace HM := Lib.hid M; clear M; clear fM; have fM := HM.out.facts; simp only [seeS, talkR_tag, rowR_tag] at fM)))
  all_goals clear fM
  first | apply Mem.call | apply Mem.postD | apply Mem.stop | apply Mem.toUpd | apply Mem.list | apply Mem.code | apply Mem.post | apply Mem.postM
  · with_reducible repeat first | exact HM.out | exact ph | apply pt | apply Mem.drew | apply Mem.alloc | apply Mem.set | apply Mem.allocO | (simp only [World.size_alloc, World.size_setCell, World.size_drew]; rfl) | rfl
  intro w3 M
  try simp only [List.set_cons_zero, List.set_cons_succ] at M
  replace HM := Lib.hid M
  clear M
  rw [← HXV.out]
  refine (rtold_any w3 J cs p index e (HR.out.ext HM.out.extTo) HP.out HI.out HOK.out.len).mono ?_
  rintro r w4 ⟨cs', rfl, hR', hE⟩
  obtain ⟨-, -, -, -, hlen', hone', -⟩ := hR'.open
  have HLEN1 := Lib.hid hlen'
  have HONE1 := Lib.hid hone'
  have HR1 := Lib.hid hR'
  have HE4 := Lib.hid (HM.out.extTo.ext hE)
  have H3 := Lib.hid HM.out.extTo.size
  replace HM := Lib.hid (Mem.restart HM.out hE)
  obtain ⟨z, hz⟩ : ∃ z, (toldR J p index e).2 = z := ⟨_, rfl⟩
  rw [hz]
  have HZ := Lib.hid hz
  clear hE hR' hlen' hone' hz
  by_cases h0 : z = 0
  · have HQ : Hid (seeR J ⟨5, p, index, e⟩ = ((toldR J p index e).1, 0)) := Lib.hid (by rw [seeR_ok HMM.out (by rw [HKR.out, HZ.out]; exact h0), HKR.out])
    subst h0
    have fM := HM.out.facts
    simp only [seeS, talkR_tag, rowR_tag] at fM
    go_wp2_with (first
      | ((with_reducible refine at_list ?_); first
        | ((with_reducible refine at_load 49 _ rfl ?_); refine mem_load_wide 49 _ rfl rfl rfl (by with_reducible repeat first | exact HM.out | exact ph | apply pt | apply Mem.drew | apply Mem.alloc | apply Mem.set | apply Mem.allocO | (simp only [World.size_alloc, World.size_setCell, World.size_drew]; rfl) | rfl) (by with_reducible repeat first | exact ph | apply pt) Tryd.underlying49 rfl (infoRJ.trans (congrArg some (Eq.symm (by first | rfl | exact HLEN.out | exact HLEN1.out | (simp only [List.length_set]; first | exact HLEN.out | exact HLEN1.out))))) ?_)
        | ((first
          | ((with_reducible refine at_store 49 _ _ rfl ?_); refine mem_store_wide 49 _ _ rfl rfl rfl rfl (by with_reducible repeat first | exact HM.out | exact ph | apply pt | apply Mem.drew | apply Mem.alloc | apply Mem.set | apply Mem.allocO | (simp only [World.size_alloc, World.size_setCell, World.size_drew]; rfl) | rfl) (by with_reducible repeat first | exact ph | apply pt) infoRJ (by first | rfl | exact HLEN.out | exact HLEN1.out | (simp only [List.length_set]; first | exact HLEN.out | exact HLEN1.out)) (by first | rfl | exact HLEN.out | exact HLEN1.out | (simp only [List.length_set]; first | exact HLEN.out | exact HLEN1.out)) (by (repeat refine one_set ?_ rfl _); first | exact HONE.out | exact HONE1.out) ?_; intro w9 M)
          | ((with_reducible refine at_box 49 _ rfl ?_); refine mem_box_wide 49 _ rfl rfl rfl (by with_reducible repeat first | exact HM.out | exact ph | apply pt | apply Mem.drew | apply Mem.alloc | apply Mem.set | apply Mem.allocO | (simp only [World.size_alloc, World.size_setCell, World.size_drew]; rfl) | rfl) ?_; intro w9 n9 M)
          | ((with_reducible refine at_alloc 49 rfl ?_); refine mem_alloc_wide 49 rfl rfl (zeroRJ _) (by with_reducible repeat first | exact HM.out | exact ph | apply pt | apply Mem.drew | apply Mem.alloc | apply Mem.set | apply Mem.allocO | (simp only [World.size_alloc, World.size_setCell, World.size_drew]; rfl) | rfl) ?_; intro w9 n9 M)); (try simp only [List.set_cons_zero, List.set_cons_succ] at M); replace HM := Lib.hid M; clear M; clear fM; have fM := HM.out.facts; simp only [seeS, talkR_tag, rowR_tag] at fM)))
    all_goals clear fM
    first | apply Mem.call | apply Mem.postD | apply Mem.stop | apply Mem.toUpd | apply Mem.list | apply Mem.code | apply Mem.post | apply Mem.postM
    · with_reducible repeat first | exact HM.out | exact ph | apply pt | apply Mem.drew | apply Mem.alloc | apply Mem.set | apply Mem.allocO | (simp only [World.size_alloc, World.size_setCell, World.size_drew]; rfl) | rfl
    intro w5 M
    try simp only [List.set_cons_zero, List.set_cons_succ] at M
    replace HM := Lib.hid M
    clear M
    refine bodyPost_ret (results_ct Tryd.results13 _ rfl (loadVar_wide 49 (by with_reducible repeat first | exact HM.out | exact ph | apply pt | apply Mem.drew | apply Mem.alloc | apply Mem.set | apply Mem.allocO | (simp only [World.size_alloc, World.size_setCell, World.size_drew]; rfl) | rfl) (by with_reducible repeat first | exact ph | apply pt) Tryd.underlying49 rfl (infoRJ.trans (congrArg some (Eq.symm (by first | rfl | exact HLEN.out | exact HLEN1.out | (simp only [List.length_set]; first | exact HLEN.out | exact HLEN1.out))))))) rfl ?_
    rw [HQ.out]
    have h3 := H3.out
    have hl := HLT.out
    refine ⟨_, rfl, (RefAt.keeps HR1.out HM.out.keepsTo fun k hk h9 => ?_).mono fun k hk => ?_, HE4.out.then HM.out.keepsTo fun k hk h9 => absurd h9.1 (by omega)⟩
    · obtain ⟨h91, h92⟩ := h9
      have := hl k hk; omega
    · exact .inl hk
  · have h0' : (z != 0) = true := by simpa using h0
    have HQ : Hid (seeR J ⟨5, p, index, e⟩ = ({ J with broken := wrap64 (J.broken + 1) }, z)) := Lib.hid (by rw [seeR_bad HMM.out (by rw [HKR.out, HZ.out]; exact h0), HKR.out, HZ.out])
    clear h0
    have fM := HM.out.facts
    simp only [seeS, talkR_tag, rowR_tag] at fM
    go_wp2_with (first
      | ((with_reducible refine at_list ?_); first
        | ((with_reducible refine at_load 49 _ rfl ?_); refine mem_load_wide 49 _ rfl rfl rfl (by with_reducible repeat first | exact HM.out | exact ph | apply pt | apply Mem.drew | apply Mem.alloc | apply Mem.set | apply Mem.allocO | (simp only [World.size_alloc, World.size_setCell, World.size_drew]; rfl) | rfl) (by with_reducible repeat first | exact ph | apply pt) Tryd.underlying49 rfl (infoRJ.trans (congrArg some (Eq.symm (by first | rfl | exact HLEN.out | exact HLEN1.out | (simp only [List.length_set]; first | exact HLEN.out | exact HLEN1.out))))) ?_)
        | ((first
          | ((with_reducible refine at_store 49 _ _ rfl ?_); refine mem_store_wide 49 _ _ rfl rfl rfl rfl (by with_reducible repeat first | exact HM.out | exact ph | apply pt | apply Mem.drew | apply Mem.alloc | apply Mem.set | apply Mem.allocO | (simp only [World.size_alloc, World.size_setCell, World.size_drew]; rfl) | rfl) (by with_reducible repeat first | exact ph | apply pt) infoRJ (by first | rfl | exact HLEN.out | exact HLEN1.out | (simp only [List.length_set]; first | exact HLEN.out | exact HLEN1.out)) (by first | rfl | exact HLEN.out | exact HLEN1.out | (simp only [List.length_set]; first | exact HLEN.out | exact HLEN1.out)) (by (repeat refine one_set ?_ rfl _); first | exact HONE.out | exact HONE1.out) ?_; intro w9 M)
          | ((with_reducible refine at_box 49 _ rfl ?_); refine mem_box_wide 49 _ rfl rfl rfl (by with_reducible repeat first | exact HM.out | exact ph | apply pt | apply Mem.drew | apply Mem.alloc | apply Mem.set | apply Mem.allocO | (simp only [World.size_alloc, World.size_setCell, World.size_drew]; rfl) | rfl) ?_; intro w9 n9 M)
          | ((with_reducible refine at_alloc 49 rfl ?_); refine mem_alloc_wide 49 rfl rfl (zeroRJ _) (by with_reducible repeat first | exact HM.out | exact ph | apply pt | apply Mem.drew | apply Mem.alloc | apply Mem.set | apply Mem.allocO | (simp only [World.size_alloc, World.size_setCell, World.size_drew]; rfl) | rfl) ?_; intro w9 n9 M)); (try simp only [List.set_cons_zero, List.set_cons_succ] at M); replace HM := Lib.hid M; clear M; clear fM; have fM := HM.out.facts; simp only [seeS, talkR_tag, rowR_tag] at fM)))
    all_goals clear fM
    first | apply Mem.call | apply Mem.postD | apply Mem.stop | apply Mem.toUpd | apply Mem.list | apply Mem.code | apply Mem.post | apply Mem.postM
    · with_reducible repeat first | exact HM.out | exact ph | apply pt | apply Mem.drew | apply Mem.alloc | apply Mem.set | apply Mem.allocO | (simp only [World.size_alloc, World.size_setCell, World.size_drew]; rfl) | rfl
    intro w5 M
    try simp only [List.set_cons_zero, List.set_cons_succ] at M
    replace HM := Lib.hid M
    clear M
    refine bodyPost_ret (results_ct Tryd.results13 _ rfl (loadVar_wide 49 (by with_reducible repeat first | exact HM.out | exact ph | apply pt | apply Mem.drew | apply Mem.alloc | apply Mem.set | apply Mem.allocO | (simp only [World.size_alloc, World.size_setCell, World.size_drew]; rfl) | rfl) (by with_reducible repeat first | exact ph | apply pt) Tryd.underlying49 rfl (infoRJ.trans (congrArg some (Eq.symm (by first | rfl | exact HLEN.out | exact HLEN1.out | (simp only [List.length_set]; first | exact HLEN.out | exact HLEN1.out))))))) rfl ?_
    rw [HQ.out]
    have HE5 := HE4.out.then HM.out.keepsTo fun k hk h9 => absurd h9.1 (by omega)
    exact ⟨_, rfl, ((HR.out.setBroken (wrap64 (J.broken + 1))).ext HE5).mono (fun k hk => .inl hk), HE5⟩
theorem rsee_2 {A : Nat → Prop} (w : World) (J : JA) (cs : List Value) (p : Nat) (index : Int) (e : En) (h : RefAt w A J cs) (hA : ∀ k, A k → k < w.heap.size) (hok : OkR J) (ht : e.text.length ≤ 500000) (hp : p < 9) (hi : 0 ≤ index) (hm : mayE J ⟨2, p, index, e⟩ = 0) : SeeC w A J cs ⟨2, p, index, e⟩ := by
  have hlt0 : ∀ k, A k → k < w.heap.size := hA
  obtain ⟨al, cl, ap, cp, hlen, hone, -, -, -, c3, cT, -, c29, c30, hvl, hvp⟩ := h.open
  have HR := Lib.hid h
  have HV := Lib.hid hvp
  have HLEN := Lib.hid hlen
  have HONE := Lib.hid hone
  have HOK := Lib.hid hok
  have HTX := Lib.hid ht
  have HLT := Lib.hid hlt0
  have HM := Lib.hid (Mem.start0 w)
  have HP := Lib.hid hp
  have HI := Lib.hid hi
  clear hp hi
  have hkr : kindsR J ⟨2, p, index, e⟩ = lineR J p index e := by simp [kindsR]
  have HKR := Lib.hid hkr
  clear hkr
  unfold SeeC
  have HXV := Lib.hid (show (⟨2, p, index, e⟩ : Sn).v = .agg #[.int .i64 2, .int .i64 (p : Int), .int .i64 index, .int .i64 e.kind, .int .i64 e.member, .int .i64 e.number, .string (bs e.text)] from rfl)
  rw [HXV.out]
  have HMM := Lib.hid hm
  clear h hA hok ht hlt0 hlen hone cT c29 hvl hvp hm
  go_enter Tryd.func13, Tryd.ntmps13
  have fM := HM.out.facts
  simp only [seeS, talkR_tag, rowR_tag] at fM
  go_wp2_with (first
    | ((with_reducible refine at_list ?_); first
      | ((with_reducible refine at_load 49 _ rfl ?_); refine mem_load_wide 49 _ rfl rfl rfl (by with_reducible repeat first | exact HM.out | exact ph | apply pt | apply Mem.drew | apply Mem.alloc | apply Mem.set | apply Mem.allocO | (simp only [World.size_alloc, World.size_setCell, World.size_drew]; rfl) | rfl) (by with_reducible repeat first | exact ph | apply pt) Tryd.underlying49 rfl (infoRJ.trans (congrArg some (Eq.symm (by first | rfl | exact HLEN.out | exact HLEN1.out | (simp only [List.length_set]; first | exact HLEN.out | exact HLEN1.out))))) ?_)
      | ((first
        | ((with_reducible refine at_store 49 _ _ rfl ?_); refine mem_store_wide 49 _ _ rfl rfl rfl rfl (by with_reducible repeat first | exact HM.out | exact ph | apply pt | apply Mem.drew | apply Mem.alloc | apply Mem.set | apply Mem.allocO | (simp only [World.size_alloc, World.size_setCell, World.size_drew]; rfl) | rfl) (by with_reducible repeat first | exact ph | apply pt) infoRJ (by first | rfl | exact HLEN.out | exact HLEN1.out | (simp only [List.length_set]; first | exact HLEN.out | exact HLEN1.out)) (by first | rfl | exact HLEN.out | exact HLEN1.out | (simp only [List.length_set]; first | exact HLEN.out | exact HLEN1.out)) (by (repeat refine one_set ?_ rfl _); first | exact HONE.out | exact HONE1.out) ?_; intro w9 M)
        | ((with_reducible refine at_box 49 _ rfl ?_); refine mem_box_wide 49 _ rfl rfl rfl (by with_reducible repeat first | exact HM.out | exact ph | apply pt | apply Mem.drew | apply Mem.alloc | apply Mem.set | apply Mem.allocO | (simp only [World.size_alloc, World.size_setCell, World.size_drew]; rfl) | rfl) ?_; intro w9 n9 M)
        | ((with_reducible refine at_alloc 49 rfl ?_); refine mem_alloc_wide 49 rfl rfl (zeroRJ _) (by with_reducible repeat first | exact HM.out | exact ph | apply pt | apply Mem.drew | apply Mem.alloc | apply Mem.set | apply Mem.allocO | (simp only [World.size_alloc, World.size_setCell, World.size_drew]; rfl) | rfl) ?_; intro w9 n9 M)); (try simp only [List.set_cons_zero, List.set_cons_succ] at M); replace HM := Lib.hid M; clear M; clear fM; have fM := HM.out.facts; simp only [seeS, talkR_tag, rowR_tag] at fM)))
  all_goals clear fM
  first | apply Mem.call | apply Mem.postD | apply Mem.stop | apply Mem.toUpd | apply Mem.list | apply Mem.code | apply Mem.post | apply Mem.postM
  · with_reducible repeat first | exact HM.out | exact ph | apply pt | apply Mem.drew | apply Mem.alloc | apply Mem.set | apply Mem.allocO | (simp only [World.size_alloc, World.size_setCell, World.size_drew]; rfl) | rfl
  intro w1 M
  try simp only [List.set_cons_zero, List.set_cons_succ] at M
  replace HM := Lib.hid M
  clear M
  rw [← HXV.out]
  refine (rmay_any w1 J cs ⟨2, p, index, e⟩ (HR.out.ext HM.out.extTo) HTX.out).mono ?_
  rintro r w2 ⟨rfl, hE⟩
  rw [HMM.out]
  replace HM := Lib.hid (HM.out.ext hE)
  clear hE
  have fM := HM.out.facts
  simp only [seeS, talkR_tag, rowR_tag] at fM
  go_wp2_with (first
    | ((with_reducible refine at_list ?_); first
      | ((with_reducible refine at_load 49 _ rfl ?_); refine mem_load_wide 49 _ rfl rfl rfl (by with_reducible repeat first | exact HM.out | exact ph | apply pt | apply Mem.drew | apply Mem.alloc | apply Mem.set | apply Mem.allocO | (simp only [World.size_alloc, World.size_setCell, World.size_drew]; rfl) | rfl) (by with_reducible repeat first | exact ph | apply pt) Tryd.underlying49 rfl (infoRJ.trans (congrArg some (Eq.symm (by first | rfl | exact HLEN.out | exact HLEN1.out | (simp only [List.length_set]; first | exact HLEN.out | exact HLEN1.out))))) ?_)
      | ((first
        | ((with_reducible refine at_store 49 _ _ rfl ?_); refine mem_store_wide 49 _ _ rfl rfl rfl rfl (by with_reducible repeat first | exact HM.out | exact ph | apply pt | apply Mem.drew | apply Mem.alloc | apply Mem.set | apply Mem.allocO | (simp only [World.size_alloc, World.size_setCell, World.size_drew]; rfl) | rfl) (by with_reducible repeat first | exact ph | apply pt) infoRJ (by first | rfl | exact HLEN.out | exact HLEN1.out | (simp only [List.length_set]; first | exact HLEN.out | exact HLEN1.out)) (by first | rfl | exact HLEN.out | exact HLEN1.out | (simp only [List.length_set]; first | exact HLEN.out | exact HLEN1.out)) (by (repeat refine one_set ?_ rfl _); first | exact HONE.out | exact HONE1.out) ?_; intro w9 M)
        | ((with_reducible refine at_box 49 _ rfl ?_); refine mem_box_wide 49 _ rfl rfl rfl (by with_reducible repeat first | exact HM.out | exact ph | apply pt | apply Mem.drew | apply Mem.alloc | apply Mem.set | apply Mem.allocO | (simp only [World.size_alloc, World.size_setCell, World.size_drew]; rfl) | rfl) ?_; intro w9 n9 M)
        | ((with_reducible refine at_alloc 49 rfl ?_); refine mem_alloc_wide 49 rfl rfl (zeroRJ _) (by with_reducible repeat first | exact HM.out | exact ph | apply pt | apply Mem.drew | apply Mem.alloc | apply Mem.set | apply Mem.allocO | (simp only [World.size_alloc, World.size_setCell, World.size_drew]; rfl) | rfl) ?_; intro w9 n9 M)); (try simp only [List.set_cons_zero, List.set_cons_succ] at M); replace HM := Lib.hid M; clear M; clear fM; have fM := HM.out.facts; simp only [seeS, talkR_tag, rowR_tag] at fM)))
  all_goals clear fM
  first | apply Mem.call | apply Mem.postD | apply Mem.stop | apply Mem.toUpd | apply Mem.list | apply Mem.code | apply Mem.post | apply Mem.postM
  · with_reducible repeat first | exact HM.out | exact ph | apply pt | apply Mem.drew | apply Mem.alloc | apply Mem.set | apply Mem.allocO | (simp only [World.size_alloc, World.size_setCell, World.size_drew]; rfl) | rfl
  intro w3 M
  try simp only [List.set_cons_zero, List.set_cons_succ] at M
  replace HM := Lib.hid M
  clear M
  rw [← HXV.out]
  refine (rline_any w3 J cs p index e (HR.out.ext HM.out.extTo) HP.out HI.out (HOK.out.told p) HOK.out.len (by have := HOK.out.slot; omega) HOK.out.st HTX.out HOK.out.puts).mono ?_
  rintro r w4 ⟨cs', rfl, hR', hE⟩
  obtain ⟨-, -, -, -, hlen', hone', -⟩ := hR'.open
  have HLEN1 := Lib.hid hlen'
  have HONE1 := Lib.hid hone'
  have HR1 := Lib.hid hR'
  have HE4 := Lib.hid (HM.out.extTo.ext hE)
  have H3 := Lib.hid HM.out.extTo.size
  replace HM := Lib.hid (Mem.restart HM.out hE)
  obtain ⟨z, hz⟩ : ∃ z, (lineR J p index e).2 = z := ⟨_, rfl⟩
  rw [hz]
  have HZ := Lib.hid hz
  clear hE hR' hlen' hone' hz
  by_cases h0 : z = 0
  · have HQ : Hid (seeR J ⟨2, p, index, e⟩ = ((lineR J p index e).1, 0)) := Lib.hid (by rw [seeR_ok HMM.out (by rw [HKR.out, HZ.out]; exact h0), HKR.out])
    subst h0
    have fM := HM.out.facts
    simp only [seeS, talkR_tag, rowR_tag] at fM
    go_wp2_with (first
      | ((with_reducible refine at_list ?_); first
        | ((with_reducible refine at_load 49 _ rfl ?_); refine mem_load_wide 49 _ rfl rfl rfl (by with_reducible repeat first | exact HM.out | exact ph | apply pt | apply Mem.drew | apply Mem.alloc | apply Mem.set | apply Mem.allocO | (simp only [World.size_alloc, World.size_setCell, World.size_drew]; rfl) | rfl) (by with_reducible repeat first | exact ph | apply pt) Tryd.underlying49 rfl (infoRJ.trans (congrArg some (Eq.symm (by first | rfl | exact HLEN.out | exact HLEN1.out | (simp only [List.length_set]; first | exact HLEN.out | exact HLEN1.out))))) ?_)
        | ((first
          | ((with_reducible refine at_store 49 _ _ rfl ?_); refine mem_store_wide 49 _ _ rfl rfl rfl rfl (by with_reducible repeat first | exact HM.out | exact ph | apply pt | apply Mem.drew | apply Mem.alloc | apply Mem.set | apply Mem.allocO | (simp only [World.size_alloc, World.size_setCell, World.size_drew]; rfl) | rfl) (by with_reducible repeat first | exact ph | apply pt) infoRJ (by first | rfl | exact HLEN.out | exact HLEN1.out | (simp only [List.length_set]; first | exact HLEN.out | exact HLEN1.out)) (by first | rfl | exact HLEN.out | exact HLEN1.out | (simp only [List.length_set]; first | exact HLEN.out | exact HLEN1.out)) (by (repeat refine one_set ?_ rfl _); first | exact HONE.out | exact HONE1.out) ?_; intro w9 M)
          | ((with_reducible refine at_box 49 _ rfl ?_); refine mem_box_wide 49 _ rfl rfl rfl (by with_reducible repeat first | exact HM.out | exact ph | apply pt | apply Mem.drew | apply Mem.alloc | apply Mem.set | apply Mem.allocO | (simp only [World.size_alloc, World.size_setCell, World.size_drew]; rfl) | rfl) ?_; intro w9 n9 M)
          | ((with_reducible refine at_alloc 49 rfl ?_); refine mem_alloc_wide 49 rfl rfl (zeroRJ _) (by with_reducible repeat first | exact HM.out | exact ph | apply pt | apply Mem.drew | apply Mem.alloc | apply Mem.set | apply Mem.allocO | (simp only [World.size_alloc, World.size_setCell, World.size_drew]; rfl) | rfl) ?_; intro w9 n9 M)); (try simp only [List.set_cons_zero, List.set_cons_succ] at M); replace HM := Lib.hid M; clear M; clear fM; have fM := HM.out.facts; simp only [seeS, talkR_tag, rowR_tag] at fM)))
    all_goals clear fM
    first | apply Mem.call | apply Mem.postD | apply Mem.stop | apply Mem.toUpd | apply Mem.list | apply Mem.code | apply Mem.post | apply Mem.postM
    · with_reducible repeat first | exact HM.out | exact ph | apply pt | apply Mem.drew | apply Mem.alloc | apply Mem.set | apply Mem.allocO | (simp only [World.size_alloc, World.size_setCell, World.size_drew]; rfl) | rfl
    intro w5 M
    try simp only [List.set_cons_zero, List.set_cons_succ] at M
    replace HM := Lib.hid M
    clear M
    refine bodyPost_ret (results_ct Tryd.results13 _ rfl (loadVar_wide 49 (by with_reducible repeat first | exact HM.out | exact ph | apply pt | apply Mem.drew | apply Mem.alloc | apply Mem.set | apply Mem.allocO | (simp only [World.size_alloc, World.size_setCell, World.size_drew]; rfl) | rfl) (by with_reducible repeat first | exact ph | apply pt) Tryd.underlying49 rfl (infoRJ.trans (congrArg some (Eq.symm (by first | rfl | exact HLEN.out | exact HLEN1.out | (simp only [List.length_set]; first | exact HLEN.out | exact HLEN1.out))))))) rfl ?_
    rw [HQ.out]
    have h3 := H3.out
    have hl := HLT.out
    refine ⟨_, rfl, (RefAt.keeps HR1.out HM.out.keepsTo fun k hk h9 => ?_).mono fun k hk => ?_, HE4.out.then HM.out.keepsTo fun k hk h9 => absurd h9.1 (by omega)⟩
    · obtain ⟨h91, h92⟩ := h9
      rcases hk with hk | hk; (have := hl k hk; omega); omega
    · exact hk.imp id fun h => by omega
  · have h0' : (z != 0) = true := by simpa using h0
    have HQ : Hid (seeR J ⟨2, p, index, e⟩ = ({ J with broken := wrap64 (J.broken + 1) }, z)) := Lib.hid (by rw [seeR_bad HMM.out (by rw [HKR.out, HZ.out]; exact h0), HKR.out, HZ.out])
    clear h0
    have fM := HM.out.facts
    simp only [seeS, talkR_tag, rowR_tag] at fM
    go_wp2_with (first
      | ((with_reducible refine at_list ?_); first
        | ((with_reducible refine at_load 49 _ rfl ?_); refine mem_load_wide 49 _ rfl rfl rfl (by with_reducible repeat first | exact HM.out | exact ph | apply pt | apply Mem.drew | apply Mem.alloc | apply Mem.set | apply Mem.allocO | (simp only [World.size_alloc, World.size_setCell, World.size_drew]; rfl) | rfl) (by with_reducible repeat first | exact ph | apply pt) Tryd.underlying49 rfl (infoRJ.trans (congrArg some (Eq.symm (by first | rfl | exact HLEN.out | exact HLEN1.out | (simp only [List.length_set]; first | exact HLEN.out | exact HLEN1.out))))) ?_)
        | ((first
          | ((with_reducible refine at_store 49 _ _ rfl ?_); refine mem_store_wide 49 _ _ rfl rfl rfl rfl (by with_reducible repeat first | exact HM.out | exact ph | apply pt | apply Mem.drew | apply Mem.alloc | apply Mem.set | apply Mem.allocO | (simp only [World.size_alloc, World.size_setCell, World.size_drew]; rfl) | rfl) (by with_reducible repeat first | exact ph | apply pt) infoRJ (by first | rfl | exact HLEN.out | exact HLEN1.out | (simp only [List.length_set]; first | exact HLEN.out | exact HLEN1.out)) (by first | rfl | exact HLEN.out | exact HLEN1.out | (simp only [List.length_set]; first | exact HLEN.out | exact HLEN1.out)) (by (repeat refine one_set ?_ rfl _); first | exact HONE.out | exact HONE1.out) ?_; intro w9 M)
          | ((with_reducible refine at_box 49 _ rfl ?_); refine mem_box_wide 49 _ rfl rfl rfl (by with_reducible repeat first | exact HM.out | exact ph | apply pt | apply Mem.drew | apply Mem.alloc | apply Mem.set | apply Mem.allocO | (simp only [World.size_alloc, World.size_setCell, World.size_drew]; rfl) | rfl) ?_; intro w9 n9 M)
          | ((with_reducible refine at_alloc 49 rfl ?_); refine mem_alloc_wide 49 rfl rfl (zeroRJ _) (by with_reducible repeat first | exact HM.out | exact ph | apply pt | apply Mem.drew | apply Mem.alloc | apply Mem.set | apply Mem.allocO | (simp only [World.size_alloc, World.size_setCell, World.size_drew]; rfl) | rfl) ?_; intro w9 n9 M)); (try simp only [List.set_cons_zero, List.set_cons_succ] at M); replace HM := Lib.hid M; clear M; clear fM; have fM := HM.out.facts; simp only [seeS, talkR_tag, rowR_tag] at fM)))
    all_goals clear fM
    first | apply Mem.call | apply Mem.postD | apply Mem.stop | apply Mem.toUpd | apply Mem.list | apply Mem.code | apply Mem.post | apply Mem.postM
    · with_reducible repeat first | exact HM.out | exact ph | apply pt | apply Mem.drew | apply Mem.alloc | apply Mem.set | apply Mem.allocO | (simp only [World.size_alloc, World.size_setCell, World.size_drew]; rfl) | rfl
    intro w5 M
    try simp only [List.set_cons_zero, List.set_cons_succ] at M
    replace HM := Lib.hid M
    clear M
    refine bodyPost_ret (results_ct Tryd.results13 _ rfl (loadVar_wide 49 (by with_reducible repeat first | exact HM.out | exact ph | apply pt | apply Mem.drew | apply Mem.alloc | apply Mem.set | apply Mem.allocO | (simp only [World.size_alloc, World.size_setCell, World.size_drew]; rfl) | rfl) (by with_reducible repeat first | exact ph | apply pt) Tryd.underlying49 rfl (infoRJ.trans (congrArg some (Eq.symm (by first | rfl | exact HLEN.out | exact HLEN1.out | (simp only [List.length_set]; first | exact HLEN.out | exact HLEN1.out))))))) rfl ?_
    rw [HQ.out]
    have HE5 := HE4.out.then HM.out.keepsTo fun k hk h9 => absurd h9.1 (by omega)
    exact ⟨_, rfl, ((HR.out.setBroken (wrap64 (J.broken + 1))).ext HE5).mono (fun k hk => .inl hk), HE5⟩
theorem rsee_3 {A : Nat → Prop} (w : World) (J : JA) (cs : List Value) (p : Nat) (index : Int) (e : En) (h : RefAt w A J cs) (hA : ∀ k, A k → k < w.heap.size) (hok : OkR J) (ht : e.text.length ≤ 500000) (hp : p < 9) (hm : mayE J ⟨3, p, index, e⟩ = 0) : SeeC w A J cs ⟨3, p, index, e⟩ := by
  have hlt0 : ∀ k, A k → k < w.heap.size := hA
  obtain ⟨al, cl, ap, cp, hlen, hone, -, -, -, c3, cT, -, c29, c30, hvl, hvp⟩ := h.open
  have HR := Lib.hid h
  have HV := Lib.hid hvp
  have HLEN := Lib.hid hlen
  have HONE := Lib.hid hone
  have HOK := Lib.hid hok
  have HTX := Lib.hid ht
  have HLT := Lib.hid hlt0
  have HM := Lib.hid (Mem.start0 w)
  have HP := Lib.hid hp
  have cpp := cT p hp
  have g1 : (p : Int) < 9 := by omega
  have g2 : ¬ (p : Int) < 0 := by omega
  obtain ⟨n, hn⟩ : ∃ n, J.told.getD p 0 = n := ⟨_, rfl⟩
  rw [hn] at cpp
  have hkr : kindsR J ⟨3, p, index, e⟩ = backR J p index := by simp [kindsR]
  by_cases h1 : n ≤ index
  case neg =>
    have hq : backR J p index = (J, 404) := by unfold backR; rw [if_pos (by rw [hn]; exact h1)]
    have HQ := Lib.hid (seeR_bad hm (by rw [hkr, hq]; exact (by decide : (404 : Int) ≠ 0)))
    rw [hkr, hq] at HQ
    have h1' : index < n := by omega
    clear h1 hn hkr hp hq
    unfold SeeC
    have HXV := Lib.hid (show (⟨3, p, index, e⟩ : Sn).v = .agg #[.int .i64 3, .int .i64 (p : Int), .int .i64 index, .int .i64 e.kind, .int .i64 e.member, .int .i64 e.number, .string (bs e.text)] from rfl)
    rw [HXV.out]
    have HMM := Lib.hid hm
    clear h hA hok ht hlt0 hlen hone cT c29 hvl hvp hm
    go_enter Tryd.func13, Tryd.ntmps13
    have fM := HM.out.facts
    simp only [seeS, talkR_tag, rowR_tag] at fM
    go_wp2_with (first
      | ((with_reducible refine at_list ?_); first
        | ((with_reducible refine at_load 49 _ rfl ?_); refine mem_load_wide 49 _ rfl rfl rfl (by with_reducible repeat first | exact HM.out | exact ph | apply pt | apply Mem.drew | apply Mem.alloc | apply Mem.set | apply Mem.allocO | (simp only [World.size_alloc, World.size_setCell, World.size_drew]; rfl) | rfl) (by with_reducible repeat first | exact ph | apply pt) Tryd.underlying49 rfl (infoRJ.trans (congrArg some (Eq.symm (by first | rfl | exact HLEN.out | exact HLEN1.out | (simp only [List.length_set]; first | exact HLEN.out | exact HLEN1.out))))) ?_)
        | ((first
          | ((with_reducible refine at_store 49 _ _ rfl ?_); refine mem_store_wide 49 _ _ rfl rfl rfl rfl (by with_reducible repeat first | exact HM.out | exact ph | apply pt | apply Mem.drew | apply Mem.alloc | apply Mem.set | apply Mem.allocO | (simp only [World.size_alloc, World.size_setCell, World.size_drew]; rfl) | rfl) (by with_reducible repeat first | exact ph | apply pt) infoRJ (by first | rfl | exact HLEN.out | exact HLEN1.out | (simp only [List.length_set]; first | exact HLEN.out | exact HLEN1.out)) (by first | rfl | exact HLEN.out | exact HLEN1.out | (simp only [List.length_set]; first | exact HLEN.out | exact HLEN1.out)) (by (repeat refine one_set ?_ rfl _); first | exact HONE.out | exact HONE1.out) ?_; intro w9 M)
          | ((with_reducible refine at_box 49 _ rfl ?_); refine mem_box_wide 49 _ rfl rfl rfl (by with_reducible repeat first | exact HM.out | exact ph | apply pt | apply Mem.drew | apply Mem.alloc | apply Mem.set | apply Mem.allocO | (simp only [World.size_alloc, World.size_setCell, World.size_drew]; rfl) | rfl) ?_; intro w9 n9 M)
          | ((with_reducible refine at_alloc 49 rfl ?_); refine mem_alloc_wide 49 rfl rfl (zeroRJ _) (by with_reducible repeat first | exact HM.out | exact ph | apply pt | apply Mem.drew | apply Mem.alloc | apply Mem.set | apply Mem.allocO | (simp only [World.size_alloc, World.size_setCell, World.size_drew]; rfl) | rfl) ?_; intro w9 n9 M)); (try simp only [List.set_cons_zero, List.set_cons_succ] at M); replace HM := Lib.hid M; clear M; clear fM; have fM := HM.out.facts; simp only [seeS, talkR_tag, rowR_tag] at fM)))
    all_goals clear fM
    first | apply Mem.call | apply Mem.postD | apply Mem.stop | apply Mem.toUpd | apply Mem.list | apply Mem.code | apply Mem.post | apply Mem.postM
    · with_reducible repeat first | exact HM.out | exact ph | apply pt | apply Mem.drew | apply Mem.alloc | apply Mem.set | apply Mem.allocO | (simp only [World.size_alloc, World.size_setCell, World.size_drew]; rfl) | rfl
    intro w1 M
    try simp only [List.set_cons_zero, List.set_cons_succ] at M
    replace HM := Lib.hid M
    clear M
    rw [← HXV.out]
    refine (rmay_any w1 J cs ⟨3, p, index, e⟩ (HR.out.ext HM.out.extTo) HTX.out).mono ?_
    rintro r w2 ⟨rfl, hE⟩
    rw [HMM.out]
    replace HM := Lib.hid (HM.out.ext hE)
    clear hE
    have fM := HM.out.facts
    simp only [seeS, talkR_tag, rowR_tag] at fM
    go_wp2_with (first
      | ((with_reducible refine at_list ?_); first
        | ((with_reducible refine at_load 49 _ rfl ?_); refine mem_load_wide 49 _ rfl rfl rfl (by with_reducible repeat first | exact HM.out | exact ph | apply pt | apply Mem.drew | apply Mem.alloc | apply Mem.set | apply Mem.allocO | (simp only [World.size_alloc, World.size_setCell, World.size_drew]; rfl) | rfl) (by with_reducible repeat first | exact ph | apply pt) Tryd.underlying49 rfl (infoRJ.trans (congrArg some (Eq.symm (by first | rfl | exact HLEN.out | exact HLEN1.out | (simp only [List.length_set]; first | exact HLEN.out | exact HLEN1.out))))) ?_)
        | ((first
          | ((with_reducible refine at_store 49 _ _ rfl ?_); refine mem_store_wide 49 _ _ rfl rfl rfl rfl (by with_reducible repeat first | exact HM.out | exact ph | apply pt | apply Mem.drew | apply Mem.alloc | apply Mem.set | apply Mem.allocO | (simp only [World.size_alloc, World.size_setCell, World.size_drew]; rfl) | rfl) (by with_reducible repeat first | exact ph | apply pt) infoRJ (by first | rfl | exact HLEN.out | exact HLEN1.out | (simp only [List.length_set]; first | exact HLEN.out | exact HLEN1.out)) (by first | rfl | exact HLEN.out | exact HLEN1.out | (simp only [List.length_set]; first | exact HLEN.out | exact HLEN1.out)) (by (repeat refine one_set ?_ rfl _); first | exact HONE.out | exact HONE1.out) ?_; intro w9 M)
          | ((with_reducible refine at_box 49 _ rfl ?_); refine mem_box_wide 49 _ rfl rfl rfl (by with_reducible repeat first | exact HM.out | exact ph | apply pt | apply Mem.drew | apply Mem.alloc | apply Mem.set | apply Mem.allocO | (simp only [World.size_alloc, World.size_setCell, World.size_drew]; rfl) | rfl) ?_; intro w9 n9 M)
          | ((with_reducible refine at_alloc 49 rfl ?_); refine mem_alloc_wide 49 rfl rfl (zeroRJ _) (by with_reducible repeat first | exact HM.out | exact ph | apply pt | apply Mem.drew | apply Mem.alloc | apply Mem.set | apply Mem.allocO | (simp only [World.size_alloc, World.size_setCell, World.size_drew]; rfl) | rfl) ?_; intro w9 n9 M)); (try simp only [List.set_cons_zero, List.set_cons_succ] at M); replace HM := Lib.hid M; clear M; clear fM; have fM := HM.out.facts; simp only [seeS, talkR_tag, rowR_tag] at fM)))
    all_goals clear fM
    first | apply Mem.call | apply Mem.postD | apply Mem.stop | apply Mem.toUpd | apply Mem.list | apply Mem.code | apply Mem.post | apply Mem.postM
    · with_reducible repeat first | exact HM.out | exact ph | apply pt | apply Mem.drew | apply Mem.alloc | apply Mem.set | apply Mem.allocO | (simp only [World.size_alloc, World.size_setCell, World.size_drew]; rfl) | rfl
    intro w3 M
    try simp only [List.set_cons_zero, List.set_cons_succ] at M
    replace HM := Lib.hid M
    clear M
    have fM := HM.out.facts
    simp only [seeS, talkR_tag, rowR_tag] at fM
    have hE0 : Keeps NoB w3 w3.drew := (Keeps.refl _ _).drew
    refine wp_region_plan [(0, 0), (3, 1), (0, 2), (3, 3), (0, 4), (0, 5), (3, 6), (0, 7)] [] [] [] (ClsE w3) (by kernel_rfl) (by kernel_rfl) (by kernel_rfl) rfl rfl (ClsE.of hE0) (fun _ _ _ d _ h => by cases d <;> exact h) ?_; simp only [planL, List.getElem?_toArray, List.getElem?_cons_succ, List.getElem?_cons_zero]
    refine plan_pure rfl (fun K hK => quiet_run (v := ?_) (fun W _ => ?_) (hK _ ?_)); rotate_left; (go_simp <;> with_reducible rfl); clear hK K; simp only [nP]
    refine plan_exact rfl (fun K hK => quiet_runX (v := ?_) ?_ (hK _ ?_)); rotate_left; (go_simp <;> with_reducible rfl); clear hK K; simp only [nP]
    refine plan_pure rfl (fun K hK => quiet_run (v := ?_) (fun W _ => ?_) (hK _ ?_)); rotate_left; (go_simp <;> with_reducible rfl); clear hK K; simp only [nP]
    refine plan_exact rfl (fun K hK => quiet_runX (v := ?_) ?_ (hK _ ?_)); rotate_left; (go_simp <;> with_reducible rfl); clear hK K; simp only [nP]
    refine plan_pure rfl (fun K hK => quiet_run (v := ?_) (fun W _ => ?_) (hK _ ?_)); rotate_left; (go_simp <;> with_reducible rfl); clear hK K; simp only [nP]
    refine plan_pure rfl (fun K hK => quiet_run (v := ?_) (fun W _ => ?_) (hK _ ?_)); rotate_left; (go_simp <;> with_reducible rfl); clear hK K; simp only [nP]
    refine plan_exact rfl (fun K hK => quiet_runX (v := ?_) ?_ (hK _ ?_)); rotate_left; (go_simp <;> with_reducible rfl); clear hK K; simp only [nP]
    refine plan_pure rfl (fun K hK => quiet_run (v := ?_) (fun W _ => ?_) (hK _ ?_)); rotate_left; (go_simp <;> with_reducible rfl); clear hK K; simp only [nP]
    refine plan_nil ?_; simp only [tailL, List.filterMap_nil]
    go_wp2_with (first
      | ((with_reducible refine at_list ?_); first
        | ((with_reducible refine at_load 49 _ rfl ?_); refine mem_load_wide 49 _ rfl rfl rfl (by with_reducible repeat first | exact HM.out | exact ph | apply pt | apply Mem.drew | apply Mem.alloc | apply Mem.set | apply Mem.allocO | (simp only [World.size_alloc, World.size_setCell, World.size_drew]; rfl) | rfl) (by with_reducible repeat first | exact ph | apply pt) Tryd.underlying49 rfl (infoRJ.trans (congrArg some (Eq.symm (by first | rfl | exact HLEN.out | exact HLEN1.out | (simp only [List.length_set]; first | exact HLEN.out | exact HLEN1.out))))) ?_)
        | ((first
          | ((with_reducible refine at_store 49 _ _ rfl ?_); refine mem_store_wide 49 _ _ rfl rfl rfl rfl (by with_reducible repeat first | exact HM.out | exact ph | apply pt | apply Mem.drew | apply Mem.alloc | apply Mem.set | apply Mem.allocO | (simp only [World.size_alloc, World.size_setCell, World.size_drew]; rfl) | rfl) (by with_reducible repeat first | exact ph | apply pt) infoRJ (by first | rfl | exact HLEN.out | exact HLEN1.out | (simp only [List.length_set]; first | exact HLEN.out | exact HLEN1.out)) (by first | rfl | exact HLEN.out | exact HLEN1.out | (simp only [List.length_set]; first | exact HLEN.out | exact HLEN1.out)) (by (repeat refine one_set ?_ rfl _); first | exact HONE.out | exact HONE1.out) ?_; intro w9 M)
          | ((with_reducible refine at_box 49 _ rfl ?_); refine mem_box_wide 49 _ rfl rfl rfl (by with_reducible repeat first | exact HM.out | exact ph | apply pt | apply Mem.drew | apply Mem.alloc | apply Mem.set | apply Mem.allocO | (simp only [World.size_alloc, World.size_setCell, World.size_drew]; rfl) | rfl) ?_; intro w9 n9 M)
          | ((with_reducible refine at_alloc 49 rfl ?_); refine mem_alloc_wide 49 rfl rfl (zeroRJ _) (by with_reducible repeat first | exact HM.out | exact ph | apply pt | apply Mem.drew | apply Mem.alloc | apply Mem.set | apply Mem.allocO | (simp only [World.size_alloc, World.size_setCell, World.size_drew]; rfl) | rfl) ?_; intro w9 n9 M)); (try simp only [List.set_cons_zero, List.set_cons_succ] at M); replace HM := Lib.hid M; clear M; clear fM; have fM := HM.out.facts; simp only [seeS, talkR_tag, rowR_tag] at fM)))
    clear fM
    first | apply Mem.call | apply Mem.postD | apply Mem.stop | apply Mem.toUpd | apply Mem.list | apply Mem.code | apply Mem.post | apply Mem.postM
    · with_reducible repeat first | exact HM.out | exact ph | apply pt | apply Mem.drew | apply Mem.alloc | apply Mem.set | apply Mem.allocO | (simp only [World.size_alloc, World.size_setCell, World.size_drew]; rfl) | rfl
    intro w5 M
    try simp only [List.set_cons_zero, List.set_cons_succ] at M
    replace HM := Lib.hid M
    clear M
    refine bodyPost_ret (results_ct Tryd.results13 _ rfl (loadVar_wide 49 (by with_reducible repeat first | exact HM.out | exact ph | apply pt | apply Mem.drew | apply Mem.alloc | apply Mem.set | apply Mem.allocO | (simp only [World.size_alloc, World.size_setCell, World.size_drew]; rfl) | rfl) (by with_reducible repeat first | exact ph | apply pt) Tryd.underlying49 rfl (infoRJ.trans (congrArg some (Eq.symm (by first | rfl | exact HLEN.out | exact HLEN1.out | (simp only [List.length_set]; first | exact HLEN.out | exact HLEN1.out))))))) rfl ?_
    rw [HQ.out]
    have HE5 := HM.out.extTo
    exact ⟨_, rfl, ((HR.out.setBroken (wrap64 (J.broken + 1))).ext HE5).mono (fun k hk => .inl hk), HE5⟩
  have h1' : ¬ index < n := by omega
  by_cases h2 : index ≤ (J.T.l.length : Int)
  case neg =>
    have hq : backR J p index = (J, 403) := by unfold backR; rw [if_neg (by rw [hn]; exact fun h => h h1), if_pos h2]
    have HQ := Lib.hid (seeR_bad hm (by rw [hkr, hq]; exact (by decide : (403 : Int) ≠ 0)))
    rw [hkr, hq] at HQ
    have h2' : (J.T.l.length : Int) < index := by omega
    clear h1 hn hkr hp hq h2
    unfold SeeC
    have HXV := Lib.hid (show (⟨3, p, index, e⟩ : Sn).v = .agg #[.int .i64 3, .int .i64 (p : Int), .int .i64 index, .int .i64 e.kind, .int .i64 e.member, .int .i64 e.number, .string (bs e.text)] from rfl)
    rw [HXV.out]
    have HMM := Lib.hid hm
    clear h hA hok ht hlt0 hlen hone cT c29 hvl hvp hm
    go_enter Tryd.func13, Tryd.ntmps13
    have fM := HM.out.facts
    simp only [seeS, talkR_tag, rowR_tag] at fM
    go_wp2_with (first
      | ((with_reducible refine at_list ?_); first
        | ((with_reducible refine at_load 49 _ rfl ?_); refine mem_load_wide 49 _ rfl rfl rfl (by with_reducible repeat first | exact HM.out | exact ph | apply pt | apply Mem.drew | apply Mem.alloc | apply Mem.set | apply Mem.allocO | (simp only [World.size_alloc, World.size_setCell, World.size_drew]; rfl) | rfl) (by with_reducible repeat first | exact ph | apply pt) Tryd.underlying49 rfl (infoRJ.trans (congrArg some (Eq.symm (by first | rfl | exact HLEN.out | exact HLEN1.out | (simp only [List.length_set]; first | exact HLEN.out | exact HLEN1.out))))) ?_)
        | ((first
          | ((with_reducible refine at_store 49 _ _ rfl ?_); refine mem_store_wide 49 _ _ rfl rfl rfl rfl (by with_reducible repeat first | exact HM.out | exact ph | apply pt | apply Mem.drew | apply Mem.alloc | apply Mem.set | apply Mem.allocO | (simp only [World.size_alloc, World.size_setCell, World.size_drew]; rfl) | rfl) (by with_reducible repeat first | exact ph | apply pt) infoRJ (by first | rfl | exact HLEN.out | exact HLEN1.out | (simp only [List.length_set]; first | exact HLEN.out | exact HLEN1.out)) (by first | rfl | exact HLEN.out | exact HLEN1.out | (simp only [List.length_set]; first | exact HLEN.out | exact HLEN1.out)) (by (repeat refine one_set ?_ rfl _); first | exact HONE.out | exact HONE1.out) ?_; intro w9 M)
          | ((with_reducible refine at_box 49 _ rfl ?_); refine mem_box_wide 49 _ rfl rfl rfl (by with_reducible repeat first | exact HM.out | exact ph | apply pt | apply Mem.drew | apply Mem.alloc | apply Mem.set | apply Mem.allocO | (simp only [World.size_alloc, World.size_setCell, World.size_drew]; rfl) | rfl) ?_; intro w9 n9 M)
          | ((with_reducible refine at_alloc 49 rfl ?_); refine mem_alloc_wide 49 rfl rfl (zeroRJ _) (by with_reducible repeat first | exact HM.out | exact ph | apply pt | apply Mem.drew | apply Mem.alloc | apply Mem.set | apply Mem.allocO | (simp only [World.size_alloc, World.size_setCell, World.size_drew]; rfl) | rfl) ?_; intro w9 n9 M)); (try simp only [List.set_cons_zero, List.set_cons_succ] at M); replace HM := Lib.hid M; clear M; clear fM; have fM := HM.out.facts; simp only [seeS, talkR_tag, rowR_tag] at fM)))
    all_goals clear fM
    first | apply Mem.call | apply Mem.postD | apply Mem.stop | apply Mem.toUpd | apply Mem.list | apply Mem.code | apply Mem.post | apply Mem.postM
    · with_reducible repeat first | exact HM.out | exact ph | apply pt | apply Mem.drew | apply Mem.alloc | apply Mem.set | apply Mem.allocO | (simp only [World.size_alloc, World.size_setCell, World.size_drew]; rfl) | rfl
    intro w1 M
    try simp only [List.set_cons_zero, List.set_cons_succ] at M
    replace HM := Lib.hid M
    clear M
    rw [← HXV.out]
    refine (rmay_any w1 J cs ⟨3, p, index, e⟩ (HR.out.ext HM.out.extTo) HTX.out).mono ?_
    rintro r w2 ⟨rfl, hE⟩
    rw [HMM.out]
    replace HM := Lib.hid (HM.out.ext hE)
    clear hE
    have fM := HM.out.facts
    simp only [seeS, talkR_tag, rowR_tag] at fM
    go_wp2_with (first
      | ((with_reducible refine at_list ?_); first
        | ((with_reducible refine at_load 49 _ rfl ?_); refine mem_load_wide 49 _ rfl rfl rfl (by with_reducible repeat first | exact HM.out | exact ph | apply pt | apply Mem.drew | apply Mem.alloc | apply Mem.set | apply Mem.allocO | (simp only [World.size_alloc, World.size_setCell, World.size_drew]; rfl) | rfl) (by with_reducible repeat first | exact ph | apply pt) Tryd.underlying49 rfl (infoRJ.trans (congrArg some (Eq.symm (by first | rfl | exact HLEN.out | exact HLEN1.out | (simp only [List.length_set]; first | exact HLEN.out | exact HLEN1.out))))) ?_)
        | ((first
          | ((with_reducible refine at_store 49 _ _ rfl ?_); refine mem_store_wide 49 _ _ rfl rfl rfl rfl (by with_reducible repeat first | exact HM.out | exact ph | apply pt | apply Mem.drew | apply Mem.alloc | apply Mem.set | apply Mem.allocO | (simp only [World.size_alloc, World.size_setCell, World.size_drew]; rfl) | rfl) (by with_reducible repeat first | exact ph | apply pt) infoRJ (by first | rfl | exact HLEN.out | exact HLEN1.out | (simp only [List.length_set]; first | exact HLEN.out | exact HLEN1.out)) (by first | rfl | exact HLEN.out | exact HLEN1.out | (simp only [List.length_set]; first | exact HLEN.out | exact HLEN1.out)) (by (repeat refine one_set ?_ rfl _); first | exact HONE.out | exact HONE1.out) ?_; intro w9 M)
          | ((with_reducible refine at_box 49 _ rfl ?_); refine mem_box_wide 49 _ rfl rfl rfl (by with_reducible repeat first | exact HM.out | exact ph | apply pt | apply Mem.drew | apply Mem.alloc | apply Mem.set | apply Mem.allocO | (simp only [World.size_alloc, World.size_setCell, World.size_drew]; rfl) | rfl) ?_; intro w9 n9 M)
          | ((with_reducible refine at_alloc 49 rfl ?_); refine mem_alloc_wide 49 rfl rfl (zeroRJ _) (by with_reducible repeat first | exact HM.out | exact ph | apply pt | apply Mem.drew | apply Mem.alloc | apply Mem.set | apply Mem.allocO | (simp only [World.size_alloc, World.size_setCell, World.size_drew]; rfl) | rfl) ?_; intro w9 n9 M)); (try simp only [List.set_cons_zero, List.set_cons_succ] at M); replace HM := Lib.hid M; clear M; clear fM; have fM := HM.out.facts; simp only [seeS, talkR_tag, rowR_tag] at fM)))
    all_goals clear fM
    first | apply Mem.call | apply Mem.postD | apply Mem.stop | apply Mem.toUpd | apply Mem.list | apply Mem.code | apply Mem.post | apply Mem.postM
    · with_reducible repeat first | exact HM.out | exact ph | apply pt | apply Mem.drew | apply Mem.alloc | apply Mem.set | apply Mem.allocO | (simp only [World.size_alloc, World.size_setCell, World.size_drew]; rfl) | rfl
    intro w3 M
    try simp only [List.set_cons_zero, List.set_cons_succ] at M
    replace HM := Lib.hid M
    clear M
    have fM := HM.out.facts
    simp only [seeS, talkR_tag, rowR_tag] at fM
    have hE0 : Keeps NoB w3 w3.drew := (Keeps.refl _ _).drew
    refine wp_region_plan [(0, 0), (3, 1), (0, 2), (3, 3), (0, 4), (0, 5), (3, 6), (0, 7)] [] [] [] (ClsE w3) (by kernel_rfl) (by kernel_rfl) (by kernel_rfl) rfl rfl (ClsE.of hE0) (fun _ _ _ d _ h => by cases d <;> exact h) ?_; simp only [planL, List.getElem?_toArray, List.getElem?_cons_succ, List.getElem?_cons_zero]
    refine plan_pure rfl (fun K hK => quiet_run (v := ?_) (fun W _ => ?_) (hK _ ?_)); rotate_left; (go_simp <;> with_reducible rfl); clear hK K; simp only [nP]
    refine plan_exact rfl (fun K hK => quiet_runX (v := ?_) ?_ (hK _ ?_)); rotate_left; (go_simp <;> with_reducible rfl); clear hK K; simp only [nP]
    refine plan_pure rfl (fun K hK => quiet_run (v := ?_) (fun W _ => ?_) (hK _ ?_)); rotate_left; (go_simp <;> with_reducible rfl); clear hK K; simp only [nP]
    refine plan_exact rfl (fun K hK => quiet_runX (v := ?_) ?_ (hK _ ?_)); rotate_left; (go_simp <;> with_reducible rfl); clear hK K; simp only [nP]
    refine plan_pure rfl (fun K hK => quiet_run (v := ?_) (fun W _ => ?_) (hK _ ?_)); rotate_left; (go_simp <;> with_reducible rfl); clear hK K; simp only [nP]
    refine plan_pure rfl (fun K hK => quiet_run (v := ?_) (fun W _ => ?_) (hK _ ?_)); rotate_left; (go_simp <;> with_reducible rfl); clear hK K; simp only [nP]
    refine plan_exact rfl (fun K hK => quiet_runX (v := ?_) ?_ (hK _ ?_)); rotate_left; (go_simp <;> with_reducible rfl); clear hK K; simp only [nP]
    refine plan_pure rfl (fun K hK => quiet_run (v := ?_) (fun W _ => ?_) (hK _ ?_)); rotate_left; (go_simp <;> with_reducible rfl); clear hK K; simp only [nP]
    refine plan_nil ?_; simp only [tailL, List.filterMap_nil]
    go_wp2_with (first
      | ((with_reducible refine at_list ?_); first
        | ((with_reducible refine at_load 49 _ rfl ?_); refine mem_load_wide 49 _ rfl rfl rfl (by with_reducible repeat first | exact HM.out | exact ph | apply pt | apply Mem.drew | apply Mem.alloc | apply Mem.set | apply Mem.allocO | (simp only [World.size_alloc, World.size_setCell, World.size_drew]; rfl) | rfl) (by with_reducible repeat first | exact ph | apply pt) Tryd.underlying49 rfl (infoRJ.trans (congrArg some (Eq.symm (by first | rfl | exact HLEN.out | exact HLEN1.out | (simp only [List.length_set]; first | exact HLEN.out | exact HLEN1.out))))) ?_)
        | ((first
          | ((with_reducible refine at_store 49 _ _ rfl ?_); refine mem_store_wide 49 _ _ rfl rfl rfl rfl (by with_reducible repeat first | exact HM.out | exact ph | apply pt | apply Mem.drew | apply Mem.alloc | apply Mem.set | apply Mem.allocO | (simp only [World.size_alloc, World.size_setCell, World.size_drew]; rfl) | rfl) (by with_reducible repeat first | exact ph | apply pt) infoRJ (by first | rfl | exact HLEN.out | exact HLEN1.out | (simp only [List.length_set]; first | exact HLEN.out | exact HLEN1.out)) (by first | rfl | exact HLEN.out | exact HLEN1.out | (simp only [List.length_set]; first | exact HLEN.out | exact HLEN1.out)) (by (repeat refine one_set ?_ rfl _); first | exact HONE.out | exact HONE1.out) ?_; intro w9 M)
          | ((with_reducible refine at_box 49 _ rfl ?_); refine mem_box_wide 49 _ rfl rfl rfl (by with_reducible repeat first | exact HM.out | exact ph | apply pt | apply Mem.drew | apply Mem.alloc | apply Mem.set | apply Mem.allocO | (simp only [World.size_alloc, World.size_setCell, World.size_drew]; rfl) | rfl) ?_; intro w9 n9 M)
          | ((with_reducible refine at_alloc 49 rfl ?_); refine mem_alloc_wide 49 rfl rfl (zeroRJ _) (by with_reducible repeat first | exact HM.out | exact ph | apply pt | apply Mem.drew | apply Mem.alloc | apply Mem.set | apply Mem.allocO | (simp only [World.size_alloc, World.size_setCell, World.size_drew]; rfl) | rfl) ?_; intro w9 n9 M)); (try simp only [List.set_cons_zero, List.set_cons_succ] at M); replace HM := Lib.hid M; clear M; clear fM; have fM := HM.out.facts; simp only [seeS, talkR_tag, rowR_tag] at fM)))
    clear fM
    first | apply Mem.call | apply Mem.postD | apply Mem.stop | apply Mem.toUpd | apply Mem.list | apply Mem.code | apply Mem.post | apply Mem.postM
    · with_reducible repeat first | exact HM.out | exact ph | apply pt | apply Mem.drew | apply Mem.alloc | apply Mem.set | apply Mem.allocO | (simp only [World.size_alloc, World.size_setCell, World.size_drew]; rfl) | rfl
    intro w5 M
    try simp only [List.set_cons_zero, List.set_cons_succ] at M
    replace HM := Lib.hid M
    clear M
    refine bodyPost_ret (results_ct Tryd.results13 _ rfl (loadVar_wide 49 (by with_reducible repeat first | exact HM.out | exact ph | apply pt | apply Mem.drew | apply Mem.alloc | apply Mem.set | apply Mem.allocO | (simp only [World.size_alloc, World.size_setCell, World.size_drew]; rfl) | rfl) (by with_reducible repeat first | exact ph | apply pt) Tryd.underlying49 rfl (infoRJ.trans (congrArg some (Eq.symm (by first | rfl | exact HLEN.out | exact HLEN1.out | (simp only [List.length_set]; first | exact HLEN.out | exact HLEN1.out))))))) rfl ?_
    rw [HQ.out]
    have HE5 := HM.out.extTo
    exact ⟨_, rfl, ((HR.out.setBroken (wrap64 (J.broken + 1))).ext HE5).mono (fun k hk => .inl hk), HE5⟩
  have hq : backR J p index = ({ J with told := J.told.set p index }, 0) := by unfold backR; rw [if_neg (by rw [hn]; exact fun h => h h1), if_neg (fun h => h h2)]
  have HQ := Lib.hid (seeR_ok hm (by rw [hkr, hq]))
  rw [hkr, hq] at HQ
  have h2' : ¬ (J.T.l.length : Int) < index := by omega
  clear h1 hn hkr hp hq h2
  unfold SeeC
  have HXV := Lib.hid (show (⟨3, p, index, e⟩ : Sn).v = .agg #[.int .i64 3, .int .i64 (p : Int), .int .i64 index, .int .i64 e.kind, .int .i64 e.member, .int .i64 e.number, .string (bs e.text)] from rfl)
  rw [HXV.out]
  have HMM := Lib.hid hm
  clear h hA hok ht hlt0 hlen hone cT c29 hvl hvp hm
  go_enter Tryd.func13, Tryd.ntmps13
  have fM := HM.out.facts
  simp only [seeS, talkR_tag, rowR_tag] at fM
  go_wp2_with (first
    | ((with_reducible refine at_list ?_); first
      | ((with_reducible refine at_load 49 _ rfl ?_); refine mem_load_wide 49 _ rfl rfl rfl (by with_reducible repeat first | exact HM.out | exact ph | apply pt | apply Mem.drew | apply Mem.alloc | apply Mem.set | apply Mem.allocO | (simp only [World.size_alloc, World.size_setCell, World.size_drew]; rfl) | rfl) (by with_reducible repeat first | exact ph | apply pt) Tryd.underlying49 rfl (infoRJ.trans (congrArg some (Eq.symm (by first | rfl | exact HLEN.out | exact HLEN1.out | (simp only [List.length_set]; first | exact HLEN.out | exact HLEN1.out))))) ?_)
      | ((first
        | ((with_reducible refine at_store 49 _ _ rfl ?_); refine mem_store_wide 49 _ _ rfl rfl rfl rfl (by with_reducible repeat first | exact HM.out | exact ph | apply pt | apply Mem.drew | apply Mem.alloc | apply Mem.set | apply Mem.allocO | (simp only [World.size_alloc, World.size_setCell, World.size_drew]; rfl) | rfl) (by with_reducible repeat first | exact ph | apply pt) infoRJ (by first | rfl | exact HLEN.out | exact HLEN1.out | (simp only [List.length_set]; first | exact HLEN.out | exact HLEN1.out)) (by first | rfl | exact HLEN.out | exact HLEN1.out | (simp only [List.length_set]; first | exact HLEN.out | exact HLEN1.out)) (by (repeat refine one_set ?_ rfl _); first | exact HONE.out | exact HONE1.out) ?_; intro w9 M)
        | ((with_reducible refine at_box 49 _ rfl ?_); refine mem_box_wide 49 _ rfl rfl rfl (by with_reducible repeat first | exact HM.out | exact ph | apply pt | apply Mem.drew | apply Mem.alloc | apply Mem.set | apply Mem.allocO | (simp only [World.size_alloc, World.size_setCell, World.size_drew]; rfl) | rfl) ?_; intro w9 n9 M)
        | ((with_reducible refine at_alloc 49 rfl ?_); refine mem_alloc_wide 49 rfl rfl (zeroRJ _) (by with_reducible repeat first | exact HM.out | exact ph | apply pt | apply Mem.drew | apply Mem.alloc | apply Mem.set | apply Mem.allocO | (simp only [World.size_alloc, World.size_setCell, World.size_drew]; rfl) | rfl) ?_; intro w9 n9 M)); (try simp only [List.set_cons_zero, List.set_cons_succ] at M); replace HM := Lib.hid M; clear M; clear fM; have fM := HM.out.facts; simp only [seeS, talkR_tag, rowR_tag] at fM)))
  all_goals clear fM
  first | apply Mem.call | apply Mem.postD | apply Mem.stop | apply Mem.toUpd | apply Mem.list | apply Mem.code | apply Mem.post | apply Mem.postM
  · with_reducible repeat first | exact HM.out | exact ph | apply pt | apply Mem.drew | apply Mem.alloc | apply Mem.set | apply Mem.allocO | (simp only [World.size_alloc, World.size_setCell, World.size_drew]; rfl) | rfl
  intro w1 M
  try simp only [List.set_cons_zero, List.set_cons_succ] at M
  replace HM := Lib.hid M
  clear M
  rw [← HXV.out]
  refine (rmay_any w1 J cs ⟨3, p, index, e⟩ (HR.out.ext HM.out.extTo) HTX.out).mono ?_
  rintro r w2 ⟨rfl, hE⟩
  rw [HMM.out]
  replace HM := Lib.hid (HM.out.ext hE)
  clear hE
  have fM := HM.out.facts
  simp only [seeS, talkR_tag, rowR_tag] at fM
  go_wp2_with (first
    | ((with_reducible refine at_list ?_); first
      | ((with_reducible refine at_load 49 _ rfl ?_); refine mem_load_wide 49 _ rfl rfl rfl (by with_reducible repeat first | exact HM.out | exact ph | apply pt | apply Mem.drew | apply Mem.alloc | apply Mem.set | apply Mem.allocO | (simp only [World.size_alloc, World.size_setCell, World.size_drew]; rfl) | rfl) (by with_reducible repeat first | exact ph | apply pt) Tryd.underlying49 rfl (infoRJ.trans (congrArg some (Eq.symm (by first | rfl | exact HLEN.out | exact HLEN1.out | (simp only [List.length_set]; first | exact HLEN.out | exact HLEN1.out))))) ?_)
      | ((first
        | ((with_reducible refine at_store 49 _ _ rfl ?_); refine mem_store_wide 49 _ _ rfl rfl rfl rfl (by with_reducible repeat first | exact HM.out | exact ph | apply pt | apply Mem.drew | apply Mem.alloc | apply Mem.set | apply Mem.allocO | (simp only [World.size_alloc, World.size_setCell, World.size_drew]; rfl) | rfl) (by with_reducible repeat first | exact ph | apply pt) infoRJ (by first | rfl | exact HLEN.out | exact HLEN1.out | (simp only [List.length_set]; first | exact HLEN.out | exact HLEN1.out)) (by first | rfl | exact HLEN.out | exact HLEN1.out | (simp only [List.length_set]; first | exact HLEN.out | exact HLEN1.out)) (by (repeat refine one_set ?_ rfl _); first | exact HONE.out | exact HONE1.out) ?_; intro w9 M)
        | ((with_reducible refine at_box 49 _ rfl ?_); refine mem_box_wide 49 _ rfl rfl rfl (by with_reducible repeat first | exact HM.out | exact ph | apply pt | apply Mem.drew | apply Mem.alloc | apply Mem.set | apply Mem.allocO | (simp only [World.size_alloc, World.size_setCell, World.size_drew]; rfl) | rfl) ?_; intro w9 n9 M)
        | ((with_reducible refine at_alloc 49 rfl ?_); refine mem_alloc_wide 49 rfl rfl (zeroRJ _) (by with_reducible repeat first | exact HM.out | exact ph | apply pt | apply Mem.drew | apply Mem.alloc | apply Mem.set | apply Mem.allocO | (simp only [World.size_alloc, World.size_setCell, World.size_drew]; rfl) | rfl) ?_; intro w9 n9 M)); (try simp only [List.set_cons_zero, List.set_cons_succ] at M); replace HM := Lib.hid M; clear M; clear fM; have fM := HM.out.facts; simp only [seeS, talkR_tag, rowR_tag] at fM)))
  all_goals clear fM
  first | apply Mem.call | apply Mem.postD | apply Mem.stop | apply Mem.toUpd | apply Mem.list | apply Mem.code | apply Mem.post | apply Mem.postM
  · with_reducible repeat first | exact HM.out | exact ph | apply pt | apply Mem.drew | apply Mem.alloc | apply Mem.set | apply Mem.allocO | (simp only [World.size_alloc, World.size_setCell, World.size_drew]; rfl) | rfl
  intro w3 M
  try simp only [List.set_cons_zero, List.set_cons_succ] at M
  replace HM := Lib.hid M
  clear M
  have fM := HM.out.facts
  simp only [seeS, talkR_tag, rowR_tag] at fM
  have hE0 : Keeps NoB w3 w3.drew := (Keeps.refl _ _).drew
  refine wp_region_plan [(0, 0), (3, 1), (0, 2), (3, 3), (0, 4), (0, 5), (3, 6), (0, 7)] [] [] [] (ClsE w3) (by kernel_rfl) (by kernel_rfl) (by kernel_rfl) rfl rfl (ClsE.of hE0) (fun _ _ _ d _ h => by cases d <;> exact h) ?_; simp only [planL, List.getElem?_toArray, List.getElem?_cons_succ, List.getElem?_cons_zero]
  refine plan_pure rfl (fun K hK => quiet_run (v := ?_) (fun W _ => ?_) (hK _ ?_)); rotate_left; (go_simp <;> with_reducible rfl); clear hK K; simp only [nP]
  refine plan_exact rfl (fun K hK => quiet_runX (v := ?_) ?_ (hK _ ?_)); rotate_left; (go_simp <;> with_reducible rfl); clear hK K; simp only [nP]
  refine plan_pure rfl (fun K hK => quiet_run (v := ?_) (fun W _ => ?_) (hK _ ?_)); rotate_left; (go_simp <;> with_reducible rfl); clear hK K; simp only [nP]
  refine plan_exact rfl (fun K hK => quiet_runX (v := ?_) ?_ (hK _ ?_)); rotate_left; (go_simp <;> with_reducible rfl); clear hK K; simp only [nP]
  refine plan_pure rfl (fun K hK => quiet_run (v := ?_) (fun W _ => ?_) (hK _ ?_)); rotate_left; (go_simp <;> with_reducible rfl); clear hK K; simp only [nP]
  refine plan_pure rfl (fun K hK => quiet_run (v := ?_) (fun W _ => ?_) (hK _ ?_)); rotate_left; (go_simp <;> with_reducible rfl); clear hK K; simp only [nP]
  refine plan_exact rfl (fun K hK => quiet_runX (v := ?_) ?_ (hK _ ?_)); rotate_left; (go_simp <;> with_reducible rfl); clear hK K; simp only [nP]
  refine plan_pure rfl (fun K hK => quiet_run (v := ?_) (fun W _ => ?_) (hK _ ?_)); rotate_left; (go_simp <;> with_reducible rfl); clear hK K; simp only [nP]
  refine plan_nil ?_; simp only [tailL, List.filterMap_nil]
  go_wp2_with (first
    | ((with_reducible refine at_list ?_); first
      | ((with_reducible refine at_load 49 _ rfl ?_); refine mem_load_wide 49 _ rfl rfl rfl (by with_reducible repeat first | exact HM.out | exact ph | apply pt | apply Mem.drew | apply Mem.alloc | apply Mem.set | apply Mem.allocO | (simp only [World.size_alloc, World.size_setCell, World.size_drew]; rfl) | rfl) (by with_reducible repeat first | exact ph | apply pt) Tryd.underlying49 rfl (infoRJ.trans (congrArg some (Eq.symm (by first | rfl | exact HLEN.out | exact HLEN1.out | (simp only [List.length_set]; first | exact HLEN.out | exact HLEN1.out))))) ?_)
      | ((first
        | ((with_reducible refine at_store 49 _ _ rfl ?_); refine mem_store_wide 49 _ _ rfl rfl rfl rfl (by with_reducible repeat first | exact HM.out | exact ph | apply pt | apply Mem.drew | apply Mem.alloc | apply Mem.set | apply Mem.allocO | (simp only [World.size_alloc, World.size_setCell, World.size_drew]; rfl) | rfl) (by with_reducible repeat first | exact ph | apply pt) infoRJ (by first | rfl | exact HLEN.out | exact HLEN1.out | (simp only [List.length_set]; first | exact HLEN.out | exact HLEN1.out)) (by first | rfl | exact HLEN.out | exact HLEN1.out | (simp only [List.length_set]; first | exact HLEN.out | exact HLEN1.out)) (by (repeat refine one_set ?_ rfl _); first | exact HONE.out | exact HONE1.out) ?_; intro w9 M)
        | ((with_reducible refine at_box 49 _ rfl ?_); refine mem_box_wide 49 _ rfl rfl rfl (by with_reducible repeat first | exact HM.out | exact ph | apply pt | apply Mem.drew | apply Mem.alloc | apply Mem.set | apply Mem.allocO | (simp only [World.size_alloc, World.size_setCell, World.size_drew]; rfl) | rfl) ?_; intro w9 n9 M)
        | ((with_reducible refine at_alloc 49 rfl ?_); refine mem_alloc_wide 49 rfl rfl (zeroRJ _) (by with_reducible repeat first | exact HM.out | exact ph | apply pt | apply Mem.drew | apply Mem.alloc | apply Mem.set | apply Mem.allocO | (simp only [World.size_alloc, World.size_setCell, World.size_drew]; rfl) | rfl) ?_; intro w9 n9 M)); (try simp only [List.set_cons_zero, List.set_cons_succ] at M); replace HM := Lib.hid M; clear M; clear fM; have fM := HM.out.facts; simp only [seeS, talkR_tag, rowR_tag] at fM)))
  clear fM
  refine bodyPost_ret (results_ct Tryd.results13 _ rfl (loadVar_wide 49 (by with_reducible repeat first | exact HM.out | exact ph | apply pt | apply Mem.drew | apply Mem.alloc | apply Mem.set | apply Mem.allocO | (simp only [World.size_alloc, World.size_setCell, World.size_drew]; rfl) | rfl) (by with_reducible repeat first | exact ph | apply pt) Tryd.underlying49 rfl (infoRJ.trans (congrArg some (Eq.symm (by first | rfl | exact HLEN.out | exact HLEN1.out | (simp only [List.length_set]; first | exact HLEN.out | exact HLEN1.out))))))) rfl ?_
  rw [HQ.out]
  refine ⟨_, rfl, ((HR.out.setTold p HP.out index).ext ?_).mono (fun k hk => .inl hk), ?_⟩ <;> (apply Mem.extTo; with_reducible repeat first | exact HM.out | exact ph | apply pt | apply Mem.drew | apply Mem.alloc | apply Mem.set | apply Mem.allocO | (simp only [World.size_alloc, World.size_setCell, World.size_drew]; rfl) | rfl)
end Go.Proofs.YthhdgjofagdjeaaDoor
end
