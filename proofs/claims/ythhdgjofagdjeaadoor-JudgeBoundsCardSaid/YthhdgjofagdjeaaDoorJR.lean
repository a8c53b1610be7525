/- Has the whole an entry at a place? Condition: the judge lies as 'JudgeAt' says. -/
import Derived.Test.YthhdgjofagdjeaaDoorJQ
set_option linter.unusedVariables false
set_option linter.unusedSimpArgs false
set_option maxHeartbeats 2000000
set_option maxRecDepth 100000
namespace Go.Proofs.YthhdgjofagdjeaaDoor
open Go.RowKit
attribute [local go_sem] Oper.semAt_some

def hasB (l : List Ln) (i : Int) (e : En) : Bool := decide (0 ≤ i) && decide (l[i.toNat]?.map (·.e) = some e)
theorem hasB_at (l : List Ln) (k : Nat) (hk : k < l.length) (e : En) : hasB l (k : Int) e = decide (l[k].e = e) := by
  unfold hasB
  rw [decide_eq_true (show (0 : Int) ≤ (k : Int) by omega), Bool.true_and, Int.toNat_natCast, List.getElem?_eq_getElem hk]
  simp
theorem hasB_none (l : List Ln) (i : Int) (e : En) (h : ∀ j : Nat, j < l.length → (j : Int) ≠ i) : hasB l i e = false := by
  unfold hasB
  by_cases h0 : 0 ≤ i
  · have : ¬ i.toNat < l.length := fun h1 => h _ h1 (by omega)
    rw [List.getElem?_eq_none (by omega)]
    simp
  · rw [decide_eq_false h0, Bool.false_and]
theorem has_any {F : Nat → Prop} (w : World) (b : Nat) (J : JA) (i : Int) (e : En) (h : JudgeX w F b J) (hl : J.T.l.length ≤ 4096) :
    Calls Tryd.prog 47 #[.pointer (some ⟨b, 0, none⟩), .int .i64 i, e.v] w fun r w' => r = .returned (.bool (hasB J.T.l i e)) ∧ Ext w w' := by
  refine (callsIn_wide (n := 9)).1 (callsIn_of_wp_marks Tryd.func47 rfl trivial ?_ rfl)
  simp only [Tryd.ntmps47, List.size_toArray, List.length_cons, List.length_nil, Nat.reduceAdd, Nat.reduceSub, Array.replicate_succ, Array.replicate_zero, List.push_toArray, List.append_toArray, List.nil_append, List.cons_append]
  have HX := Lib.hid h
  clear h
  unfold En.v
  gi_wp2_with fail
  have ba0 := (((Box.new w 2 [.int .i64 i]).alloc (Obj.cells #[.int .i64 e.kind, .int .i64 e.member, .int .i64 e.number, .string (bs e.text)] 35)).alloc (Obj.cells #[.bool false] 4))
  have ba1 := ((Box.new (w.alloc (Obj.cells #[.int .i64 i] 2)) 35 [.int .i64 e.kind, .int .i64 e.member, .int .i64 e.number, .string (bs e.text)]).alloc (Obj.cells #[.bool false] 4))
  have ba2 := (Box.new ((w.alloc (Obj.cells #[.int .i64 i] 2)).alloc (Obj.cells #[.int .i64 e.kind, .int .i64 e.member, .int .i64 e.number, .string (bs e.text)] 35)) 4 [.bool false])
  have ea : Ext w (((w.alloc (Obj.cells #[.int .i64 i] 2)).alloc (Obj.cells #[.int .i64 e.kind, .int .i64 e.member, .int .i64 e.number, .string (bs e.text)] 35)).alloc (Obj.cells #[.bool false] 4)) := ((((Keeps.refl NoB w).alloc _).alloc _).alloc _)
  have sa : (((w.alloc (Obj.cells #[.int .i64 i] 2)).alloc (Obj.cells #[.int .i64 e.kind, .int .i64 e.member, .int .i64 e.number, .string (bs e.text)] 35)).alloc (Obj.cells #[.bool false] 4)).heap.size = w.heap.size + 3 := by simp
  simp only [World.size_alloc] at ba1 ba2
  generalize (((w.alloc (Obj.cells #[.int .i64 i] 2)).alloc (Obj.cells #[.int .i64 e.kind, .int .i64 e.member, .int .i64 e.number, .string (bs e.text)] 35)).alloc (Obj.cells #[.bool false] 4)) = w0 at ba0 ba1 ba2 ea sa ⊢
  have Sa := Lib.hid sa
  clear sa
  have BA := Lib.hid ba0
  have BB := Lib.hid ba1
  have BC := Lib.hid ba2
  have HE := Lib.hid ea
  have hs0 := ba2.lt
  clear ba0 ba1 ba2 ea
  refine ⟨trivial, callsIn_wide.2 ((whole_any w0 b J (HX.out.ext HE.out) hl).mono ?_)⟩
  rintro r w7 ⟨q, b', F', rfl, hq, hT, hE, hq0, hF⟩
  have HQ := Lib.hid hq
  have HT := Lib.hid hT
  have HF := Lib.hid hF
  replace HE := Lib.hid (HE.out.ext hE)
  replace BA := Lib.hid (BA.out.ext hE)
  replace BB := Lib.hid (BB.out.ext hE)
  replace BC := Lib.hid (BC.out.ext hE)
  have h07 := hE.size
  clear hq hT hE hF
  gi_wp2_with fail
  have hqs := HQ.out.lt
  refine wpIn_range rfl (by omega) (gf := 33) (lb := #[.pointer (some ⟨q, 0, none⟩)]) rfl trivial (enters_of Tryd.func33 (by kernel_rfl) rfl)
    (S := OneB (w.heap.size + 1 + 1)) (iter_whole w7 q b' J.T HQ.out HT.out (by unfold OneB; omega) (fun k h1 h2 => by have := HF.out k h1; have h3 : k = w.heap.size + 1 + 1 := h2; omega) hl) (by rintro x v W0 W rfl; rfl)
    (fun k W => Keeps (OneB (w.heap.size + 1 + 1)) w7 W ∧ Box W (w.heap.size + 1 + 1) 4 [.bool false] ∧ ∀ j : Nat, j < k → (j : Int) ≠ i)
    (fun c k W => c = .ret ∧ Keeps (OneB (w.heap.size + 1 + 1)) w7 W ∧ Box W (w.heap.size + 1 + 1) 4 [.bool (hasB J.T.l i e)]) (fun k W h => h.1)
    (fun k W W' h hk => ⟨h.1.then hk (fun i hi h => by unfold OneB at h ⊢; omega), h.2.1.keeps hk (by unfold OneB; omega), h.2.2⟩)
    (fun c k W W' h hk => ⟨h.1, h.2.1.then hk (fun i hi h => by unfold OneB at h ⊢; omega), h.2.2.keeps hk (by unfold OneB; omega)⟩) ⟨Keeps.refl _ _, BC.out, fun j hj => by omega⟩ ?_ ?_ ?_
  · rintro k hk v W0 W - hE0 ⟨hkW, hb0, hne⟩ hv hlt0 hlt
    have hk' : k < J.T.l.length := by rw [wholeL_len] at hk; exact hk
    rw [wholeL_get] at hv
    unfold HandsOn at hv
    dsimp only at hv
    obtain ⟨x, hx⟩ : ∃ x, (J.T.l[k]).e = x := ⟨_, rfl⟩
    rw [hx] at hv
    unfold En.v at hv
    subst hv
    have HXE := Lib.hid hx
    have HNE := Lib.hid hne
    have HKW := Lib.hid hkW
    have HB0 := Lib.hid hb0
    have h7W := hkW.size
    clear hx hne hkW hb0 hE0
    gi_wp2_with fail
    refine ⟨(Keeps.refl _ _).alloc _, fun W2 hW2 => ?_⟩
    have bx := (Box.new W 35 [.int .i64 x.kind, .int .i64 x.member, .int .i64 x.number, .string (bs x.text)]).keeps hW2 (by unfold OneB; omega)
    have ex : Keeps (OneB (w7.heap.size + 1)) W W2 := ((Keeps.refl _ _).alloc (Obj.cells #[.int .i64 x.kind, .int .i64 x.member, .int .i64 x.number, .string (bs x.text)] 35)).trans hW2
    have b0 := HB0.out.keeps ex (by unfold OneB; omega)
    have bA := (BA.out.keeps HKW.out (by unfold OneB; omega)).keeps ex (by unfold OneB; omega)
    have bB := (BB.out.keeps HKW.out (by unfold OneB; omega)).keeps ex (by unfold OneB; omega)
    have hkW2 : Keeps (OneB (w.heap.size + 1 + 1)) w7 W2 := HKW.out.then ex (fun i hi h => by unfold OneB at h; omega)
    have BX := Lib.hid bx
    have B0 := Lib.hid b0
    have AA := Lib.hid bA
    have BBB := Lib.hid bB
    have HK2 := Lib.hid hkW2
    clear bx b0 bA bB hkW2 ex hW2
    by_cases hi : (k : Int) = i
    · have HI := Lib.hid hi
      subst hi
      obtain ⟨cBX, zBX⟩ := BX.out.reads
      have lBX := BX.out.lt
      obtain ⟨cB0, zB0⟩ := B0.out.reads
      have lB0 := B0.out.lt
      obtain ⟨cAA, zAA⟩ := AA.out.reads
      have lAA := AA.out.lt
      obtain ⟨cBBB, zBBB⟩ := BBB.out.reads
      have lBBB := BBB.out.lt
      gi_wp2_with fail
      all_goals
        refine ⟨(Keeps.refl _ _).setCell _ _ (.inl (.inl ⟨by show w.heap.size + 1 + 1 < w7.heap.size; omega, rfl⟩)), rfl, HK2.out.setCell _ _ (.inl rfl), ?_⟩
        rw [hasB_at J.T.l k hk' e, HXE.out]
        first
          | (have hd : decide (x = e) = true := decide_eq_true (by
              obtain ⟨x1, x2, x3, x4⟩ := x
              obtain ⟨y1, y2, y3, y4⟩ := e
              simp only [bs_toList] at *
              simp_all)
             rw [hd]
             exact B0.out.set 0 (.bool true))
          | (have hd : decide (x = e) = false := decide_eq_false (by intro h9; subst h9; simp_all)
             rw [hd]
             exact B0.out.set 0 (.bool false))
    · have hib : ((k : Int) == i) = false := by simpa using hi
      obtain ⟨cAA, zAA⟩ := AA.out.reads
      have lAA := AA.out.lt
      gi_wp2_with fail
      refine ⟨Keeps.refl _ _, HK2.out, B0.out, fun j hj => ?_⟩
      by_cases hjk : j = k
      · subst hjk; exact hi
      · exact HNE.out j (by omega)
  · rintro W ⟨hkW, hb0, hne⟩ hm
    rw [wholeL_len] at hne
    have HK := Lib.hid hkW
    have HM := Lib.hid hm
    have D0 := Lib.hid hb0
    have HN := Lib.hid hne
    have h7W := hkW.size
    clear hkW hm hb0 hne
    obtain ⟨cD0, zD0⟩ := D0.out.reads
    have lD0 := D0.out.lt
    gi_wp2_with fail
    clear cD0 zD0 lD0
    rw [hasB_none _ _ _ HN.out]
    refine leaves_marks [w7.heap.size] _ (by simp) ?_ ?_
    · intro D hD
      obtain rfl : D = w7.heap.size := by simpa using hD
      exact HM.out.keeps (S := OneB (w.heap.size + 1 + 1)) ((Keeps.refl _ _).setOne _ _) (by unfold OneB; omega)
    · intro w' hk
      have q0 : Box w' (w.heap.size + 1 + 1) 4 [.bool false] := by
        refine Box.keeps (w := _) ?_ hk (by simp; omega)
        exact D0.out.set 0 (.bool false)
      refine ⟨.bool false, ?_, rfl, ?_⟩
      · simp [results, Tryd.results47, go_sem, q0.reads.1]
      · have h1 := (HE.out.then HK.out (fun i hi h => by unfold OneB at h; omega)).then ((Keeps.refl (OneB (w.heap.size + 1 + 1)) W).setOne 0 (.bool false)) (fun i hi h => by unfold OneB at h; omega)
        exact h1.then hk (fun i hi h => by simp at h; omega)
  · rintro c k W hk ⟨rfl, hkW, hb0⟩ hm
    have HK := Lib.hid hkW
    have HM := Lib.hid hm
    have D0 := Lib.hid hb0
    have h7W := hkW.size
    clear hkW hm hb0
    gi_wp2_with fail
    refine leaves_marks [w7.heap.size] _ (by simp) ?_ ?_
    · intro D hD
      obtain rfl : D = w7.heap.size := by simpa using hD
      exact HM.out
    · intro w' hk
      have q0 : Box w' (w.heap.size + 1 + 1) 4 [.bool (hasB J.T.l i e)] := Box.keeps D0.out hk (by simp; omega)
      refine ⟨.bool (hasB J.T.l i e), ?_, rfl, ?_⟩
      · simp [results, Tryd.results47, go_sem, q0.reads.1]
      · have h1 := HE.out.then HK.out (fun i hi h => by unfold OneB at h; omega)
        exact h1.then hk (fun i hi h => by simp at h; omega)
end Go.Proofs.YthhdgjofagdjeaaDoor
