/- Texts YJ, YK, YL, WC, one behind the other. Conditions: as each says. -/
import Derived.Test.YthhdgjofagdjeaaGreatDoorPkO
import Derived.BigFrameIn
import Derived.BigGuardIn
section
/- Which of the document's judges are the same. Conditions: they lie as 'RefAt' says, and are such as came by things seen. -/
set_option linter.unusedVariables false
set_option linter.unusedSimpArgs false
set_option maxHeartbeats 4000000
set_option maxRecDepth 100000
namespace Go.Proofs.YthhdgjofagdjeaaGreatDoor
open Go.RowKit
/-- a part of cells -/
structure Pt (cs : List Value) (k n : Nat) (part : List Value) : Prop where
  cut : (cs.drop k).take n = part
  len : part.length = n
section
variable {P : Program} {ops : Array Oper} {rest : List Oper} {o : Oper} {a : Act} {w w0 w1 : World} {Q : Exit → Act → World → Prop} {F : Nat → Prop} {L L1 L2 : List Res} {d : TypeDesc} {b n k : Nat} {t : TypeId} {cs part : List Value}
theorem ldP (ty : TypeId) (x : Operand) (ho : o.op = .load ty x) (hw : Region.wanted o (yielded ops a.tmps) = true) (hx : a.eval x = .pointer (some ⟨b, k, none⟩)) (m : Mem F w0 w1 L) [Wo w1 L w L1] [p : PkB L1 b t cs L2] (h : Pt cs k n part) (hu : P.underlying ty = some d)
    (hd : d.isRow = true) (hi : (P.info? ty).map (·.size) = some n) (kk : wpList P ops Q rest (a.put o.dst (.agg part.toArray)) w) : wpList P ops Q (o :: rest) a w := by
  obtain ⟨A, hb⟩ := (m.to (w' := w)).get p.out
  have h2 := elM ty x ho hx (load_mid hb.2 h.cut h.len hu hd hi)
  unfold wpList
  rw [if_pos hw]
  refine .inl ?_
  unfold Oper.wp
  rw [h2]
  exact kk
end
theorem RefAt.parts {w : World} {A : Nat → Prop} {J : JA} {cs : List Value} (h : RefAt w A J cs) : Pt cs 4 9 (J.told.map iV) ∧ Pt cs 13 16 (J.next.map iV) ∧ J.told.length = 9 ∧ J.next.length = 16 := by
  obtain ⟨vl, vp, rfl, -, -, -, -, h9, h16⟩ := h
  have a1 : (J.told.map iV).length = 9 := by rw [List.length_map, h9]
  have a2 : (J.next.map iV).length = 16 := by rw [List.length_map, h16]
  have e1 : (J.rcells vl vp).drop 4 = J.told.map iV ++ (J.next.map iV ++ [vp, .int .i64 J.broken]) := rfl
  refine ⟨⟨?_, a1⟩, ⟨?_, a2⟩, h9, h16⟩
  · rw [e1, List.take_append_of_le_length (by omega), List.take_of_length_le (by omega)]
  · rw [show (13 : Nat) = 4 + 9 from rfl, ← List.drop_drop, e1, List.drop_append_of_le_length (by omega), List.drop_eq_nil_of_le (by omega), List.nil_append, List.take_append_of_le_length (by omega), List.take_of_length_le (by omega)]
theorem info9 : (Tryz.prog.info? 33).map (·.size) = some 9 := by kernel_rfl
theorem infoN16 : (Tryz.prog.info? 34).map (·.size) = some 16 := by kernel_rfl
theorem rsame_any {A B : Nat → Prop} (w : World) (J Z : JA) (cs1 cs2 : List Value) (hJ : RefAt w A J cs1) (hZ : RefAt w B Z cs2) (oJ : Came J) (oZ : Came Z) :
    Calls Tryz.prog 19 #[.agg cs1.toArray, .agg cs2.toArray] w fun e w' => e = .returned (.bool (sameJ J Z)) ∧ Ext w w' := by
  have HR2 := Lib.hid hZ
  have HCJ := Lib.hid oJ
  have HCZ := Lib.hid oZ
  obtain ⟨p1, p3, j9, j16⟩ := hJ.parts
  obtain ⟨p2, p4, z9, z16⟩ := hZ.parts
  obtain ⟨al, cl, ap, cp, jl, jo, c0, c1, c2, c3, -, -, c29, c30, hvl, hvp⟩ := hJ.open
  obtain ⟨al', cl', ap', cp', zl, zo, f0, f1, f2, f3, -, -, f29, f30, hvl', hvp'⟩ := hZ.open
  have HW1 : Wd 31 cs1 := ⟨jl, jo⟩
  have HW2 : Wd 31 cs2 := ⟨zl, zo⟩
  have HV1 := Lib.hid hvl
  have HV2 := Lib.hid hvl'
  have HVP := Lib.hid hvp
  have hq9 := fun W => eqIn_9 J.told Z.told j9 z9 9998 W
  have hn9 := fun W => neq_of (eqIn_9 J.told Z.told j9 z9 9998 W)
  have hq16 := fun W => eqIn_16 J.next Z.next j16 z16 9998 W
  have hn16 := fun W => neq_of (eqIn_16 J.next Z.next j16 z16 9998 W)
  obtain ⟨q1, h1⟩ : ∃ q, J.told.map iV = q := ⟨_, rfl⟩
  obtain ⟨q2, h2⟩ : ∃ q, Z.told.map iV = q := ⟨_, rfl⟩
  obtain ⟨q3, h3⟩ : ∃ q, J.next.map iV = q := ⟨_, rfl⟩
  obtain ⟨q4, h4⟩ : ∃ q, Z.next.map iV = q := ⟨_, rfl⟩
  rw [h1] at hq9 hn9 p1
  rw [h2] at hq9 hn9 p2
  rw [h3] at hq16 hn16 p3
  rw [h4] at hq16 hn16 p4
  have HP1 := Lib.hid p1
  have HP2 := Lib.hid p2
  have HP3 := Lib.hid p3
  have HP4 := Lib.hid p4
  obtain ⟨n1, hn1⟩ : ∃ n1, J.n = n1 := ⟨_, rfl⟩
  obtain ⟨n2, hn2⟩ : ∃ n2, Z.n = n2 := ⟨_, rfl⟩
  obtain ⟨m1, hm1⟩ : ∃ m1, J.m = m1 := ⟨_, rfl⟩
  obtain ⟨m2, hm2⟩ : ∃ m2, Z.m = m2 := ⟨_, rfl⟩
  obtain ⟨b1, hb1⟩ : ∃ b1, J.broken = b1 := ⟨_, rfl⟩
  obtain ⟨b2, hb2⟩ : ∃ b2, Z.broken = b2 := ⟨_, rfl⟩
  have HDEF : Hid (sameJ J Z = ((decide (J.told = Z.told) && (decide (J.next = Z.next) && decide (b1 = b2))) && (decide (n1 = n2) && (decide (m1 = m2) && (sameT J.T Z.T && sameD J.put Z.put))))) := Lib.hid (by unfold sameJ sameC; rw [hn1, hn2, hm1, hm2, hb1, hb2])
  rw [hn1] at c0
  rw [hn2] at f0
  rw [hm1] at c1
  rw [hm2] at f1
  rw [hb1] at c30
  rw [hb2] at f30
  have HM := Lib.hid (Mem.start0 w)
  clear hJ hZ oJ oZ p1 p2 p3 p4 j9 j16 z9 z16 jl jo zl zo hvl hvl' hvp hvp' h1 h2 h3 h4 hn1 hn2 hm1 hm2 hb1 hb2
  by_cases e1 : n1 = n2
  case neg =>
    have HQ : Hid (sameJ J Z = false) := Lib.hid (by rw [HDEF.out, decide_eq_false e1]; simp)
    have e1' : (n1 == n2) = false := by simpa using e1
    have e1n : (n1 != n2) = true := by simpa using e1
    clear HDEF e1
    go_enter Tryz.func19, Tryz.ntmps19
    have fM := HM.out.fa
    go_wp2_with (first
      | ((with_reducible refine at_list ?_); first
        | ((with_reducible refine at_load 37 _ rfl ?_); refine ldW 37 _ rfl rfl rfl HM.out Tryz.underlying37 rfl infoRJ ?_)
        | ((first
          | ((with_reducible refine at_store 37 _ _ rfl ?_); refine stW 37 _ _ rfl rfl rfl rfl HM.out infoRJ ?_; intro w9 M)
          | ((with_reducible refine at_box 37 _ rfl ?_); refine boW 37 _ rfl rfl rfl HM.out ?_; intro w9 n9 M)
          | ((with_reducible refine at_alloc 37 rfl ?_); refine alW 37 rfl rfl (zeroRJ _) HM.out ?_; intro w9 n9 M)); replace HM := Lib.hid M; clear M; clear fM; have fM := HM.out.fa))
      | (first | ((with_reducible refine at_load 33 _ rfl ?_); first | refine ldP 33 _ rfl rfl rfl HM.out HP1.out Tryz.underlying33 rfl info9 ?_ | refine ldP 33 _ rfl rfl rfl HM.out HP2.out Tryz.underlying33 rfl info9 ?_) | ((with_reducible refine at_load 34 _ rfl ?_); first | refine ldP 34 _ rfl rfl rfl HM.out HP3.out Tryz.underlying34 rfl infoN16 ?_ | refine ldP 34 _ rfl rfl rfl HM.out HP4.out Tryz.underlying34 rfl infoN16 ?_)))
    all_goals clear fM
    go_ret
    refine ⟨by rw [HQ.out]; rfl, ?_⟩
    apply Mem.extTo
    exact HM.out.to
  subst e1
  by_cases e2 : m1 = m2
  case neg =>
    have HQ : Hid (sameJ J Z = false) := Lib.hid (by rw [HDEF.out, decide_eq_false e2]; simp)
    have e2' : (m1 == m2) = false := by simpa using e2
    have e2n : (m1 != m2) = true := by simpa using e2
    clear HDEF e2
    go_enter Tryz.func19, Tryz.ntmps19
    have fM := HM.out.fa
    go_wp2_with (first
      | ((with_reducible refine at_list ?_); first
        | ((with_reducible refine at_load 37 _ rfl ?_); refine ldW 37 _ rfl rfl rfl HM.out Tryz.underlying37 rfl infoRJ ?_)
        | ((first
          | ((with_reducible refine at_store 37 _ _ rfl ?_); refine stW 37 _ _ rfl rfl rfl rfl HM.out infoRJ ?_; intro w9 M)
          | ((with_reducible refine at_box 37 _ rfl ?_); refine boW 37 _ rfl rfl rfl HM.out ?_; intro w9 n9 M)
          | ((with_reducible refine at_alloc 37 rfl ?_); refine alW 37 rfl rfl (zeroRJ _) HM.out ?_; intro w9 n9 M)); replace HM := Lib.hid M; clear M; clear fM; have fM := HM.out.fa))
      | (first | ((with_reducible refine at_load 33 _ rfl ?_); first | refine ldP 33 _ rfl rfl rfl HM.out HP1.out Tryz.underlying33 rfl info9 ?_ | refine ldP 33 _ rfl rfl rfl HM.out HP2.out Tryz.underlying33 rfl info9 ?_) | ((with_reducible refine at_load 34 _ rfl ?_); first | refine ldP 34 _ rfl rfl rfl HM.out HP3.out Tryz.underlying34 rfl infoN16 ?_ | refine ldP 34 _ rfl rfl rfl HM.out HP4.out Tryz.underlying34 rfl infoN16 ?_)))
    all_goals clear fM
    go_ret
    refine ⟨by rw [HQ.out]; rfl, ?_⟩
    apply Mem.extTo
    exact HM.out.to
  subst e2
  by_cases e3 : J.told = Z.told
  case neg =>
    have HQ : Hid (sameJ J Z = false) := Lib.hid (by rw [HDEF.out, decide_eq_false e3]; rfl)
    simp only [decide_eq_false e3, Bool.not_false] at hq9 hn9
    clear HDEF e3
    go_enter Tryz.func19, Tryz.ntmps19
    have fM := HM.out.fa
    go_wp2_with (first
      | ((with_reducible refine at_list ?_); first
        | ((with_reducible refine at_load 37 _ rfl ?_); refine ldW 37 _ rfl rfl rfl HM.out Tryz.underlying37 rfl infoRJ ?_)
        | ((first
          | ((with_reducible refine at_store 37 _ _ rfl ?_); refine stW 37 _ _ rfl rfl rfl rfl HM.out infoRJ ?_; intro w9 M)
          | ((with_reducible refine at_box 37 _ rfl ?_); refine boW 37 _ rfl rfl rfl HM.out ?_; intro w9 n9 M)
          | ((with_reducible refine at_alloc 37 rfl ?_); refine alW 37 rfl rfl (zeroRJ _) HM.out ?_; intro w9 n9 M)); replace HM := Lib.hid M; clear M; clear fM; have fM := HM.out.fa))
      | (first | ((with_reducible refine at_load 33 _ rfl ?_); first | refine ldP 33 _ rfl rfl rfl HM.out HP1.out Tryz.underlying33 rfl info9 ?_ | refine ldP 33 _ rfl rfl rfl HM.out HP2.out Tryz.underlying33 rfl info9 ?_) | ((with_reducible refine at_load 34 _ rfl ?_); first | refine ldP 34 _ rfl rfl rfl HM.out HP3.out Tryz.underlying34 rfl infoN16 ?_ | refine ldP 34 _ rfl rfl rfl HM.out HP4.out Tryz.underlying34 rfl infoN16 ?_)))
    all_goals clear fM
    go_ret
    refine ⟨by rw [HQ.out]; rfl, ?_⟩
    apply Mem.extTo
    exact HM.out.to
  simp only [decide_eq_true e3, Bool.not_true] at hq9 hn9 HDEF
  by_cases e4 : J.next = Z.next
  case neg =>
    have HQ : Hid (sameJ J Z = false) := Lib.hid (by rw [HDEF.out, decide_eq_false e4]; rfl)
    simp only [decide_eq_false e4, Bool.not_false] at hq16 hn16
    clear HDEF e3 e4
    go_enter Tryz.func19, Tryz.ntmps19
    have fM := HM.out.fa
    go_wp2_with (first
      | ((with_reducible refine at_list ?_); first
        | ((with_reducible refine at_load 37 _ rfl ?_); refine ldW 37 _ rfl rfl rfl HM.out Tryz.underlying37 rfl infoRJ ?_)
        | ((first
          | ((with_reducible refine at_store 37 _ _ rfl ?_); refine stW 37 _ _ rfl rfl rfl rfl HM.out infoRJ ?_; intro w9 M)
          | ((with_reducible refine at_box 37 _ rfl ?_); refine boW 37 _ rfl rfl rfl HM.out ?_; intro w9 n9 M)
          | ((with_reducible refine at_alloc 37 rfl ?_); refine alW 37 rfl rfl (zeroRJ _) HM.out ?_; intro w9 n9 M)); replace HM := Lib.hid M; clear M; clear fM; have fM := HM.out.fa))
      | (first | ((with_reducible refine at_load 33 _ rfl ?_); first | refine ldP 33 _ rfl rfl rfl HM.out HP1.out Tryz.underlying33 rfl info9 ?_ | refine ldP 33 _ rfl rfl rfl HM.out HP2.out Tryz.underlying33 rfl info9 ?_) | ((with_reducible refine at_load 34 _ rfl ?_); first | refine ldP 34 _ rfl rfl rfl HM.out HP3.out Tryz.underlying34 rfl infoN16 ?_ | refine ldP 34 _ rfl rfl rfl HM.out HP4.out Tryz.underlying34 rfl infoN16 ?_)))
    all_goals clear fM
    go_ret
    refine ⟨by rw [HQ.out]; rfl, ?_⟩
    apply Mem.extTo
    exact HM.out.to
  simp only [decide_eq_true e4, Bool.not_true] at hq16 hn16 HDEF
  clear e3 e4
  by_cases e5 : b1 = b2
  case neg =>
    have HQ : Hid (sameJ J Z = false) := Lib.hid (by rw [HDEF.out, decide_eq_false e5]; rfl)
    have e5' : (b1 == b2) = false := by simpa using e5
    have e5n : (b1 != b2) = true := by simpa using e5
    clear HDEF e5
    go_enter Tryz.func19, Tryz.ntmps19
    have fM := HM.out.fa
    go_wp2_with (first
      | ((with_reducible refine at_list ?_); first
        | ((with_reducible refine at_load 37 _ rfl ?_); refine ldW 37 _ rfl rfl rfl HM.out Tryz.underlying37 rfl infoRJ ?_)
        | ((first
          | ((with_reducible refine at_store 37 _ _ rfl ?_); refine stW 37 _ _ rfl rfl rfl rfl HM.out infoRJ ?_; intro w9 M)
          | ((with_reducible refine at_box 37 _ rfl ?_); refine boW 37 _ rfl rfl rfl HM.out ?_; intro w9 n9 M)
          | ((with_reducible refine at_alloc 37 rfl ?_); refine alW 37 rfl rfl (zeroRJ _) HM.out ?_; intro w9 n9 M)); replace HM := Lib.hid M; clear M; clear fM; have fM := HM.out.fa))
      | (first | ((with_reducible refine at_load 33 _ rfl ?_); first | refine ldP 33 _ rfl rfl rfl HM.out HP1.out Tryz.underlying33 rfl info9 ?_ | refine ldP 33 _ rfl rfl rfl HM.out HP2.out Tryz.underlying33 rfl info9 ?_) | ((with_reducible refine at_load 34 _ rfl ?_); first | refine ldP 34 _ rfl rfl rfl HM.out HP3.out Tryz.underlying34 rfl infoN16 ?_ | refine ldP 34 _ rfl rfl rfl HM.out HP4.out Tryz.underlying34 rfl infoN16 ?_)))
    all_goals clear fM
    go_ret
    refine ⟨by rw [HQ.out]; rfl, ?_⟩
    apply Mem.extTo
    exact HM.out.to
  subst e5
  have HD2 : Hid (sameJ J Z = (sameT J.T Z.T && sameD J.put Z.put)) := Lib.hid (by rw [HDEF.out]; simp)
  clear HDEF
  go_enter Tryz.func19, Tryz.ntmps19
  have fM := HM.out.fa
  go_wp2_with (first
    | ((with_reducible refine at_list ?_); first
      | ((with_reducible refine at_load 37 _ rfl ?_); refine ldW 37 _ rfl rfl rfl HM.out Tryz.underlying37 rfl infoRJ ?_)
      | ((first
        | ((with_reducible refine at_store 37 _ _ rfl ?_); refine stW 37 _ _ rfl rfl rfl rfl HM.out infoRJ ?_; intro w9 M)
        | ((with_reducible refine at_box 37 _ rfl ?_); refine boW 37 _ rfl rfl rfl HM.out ?_; intro w9 n9 M)
        | ((with_reducible refine at_alloc 37 rfl ?_); refine alW 37 rfl rfl (zeroRJ _) HM.out ?_; intro w9 n9 M)); replace HM := Lib.hid M; clear M; clear fM; have fM := HM.out.fa; refine standing ?_)))
  all_goals clear fM
  rename Nat => nA
  refine ⟨?_⟩
  have fM := HM.out.fa
  go_wp2_with (first
    | ((with_reducible refine at_list ?_); first
      | ((with_reducible refine at_load 37 _ rfl ?_); refine ldW 37 _ rfl rfl rfl HM.out Tryz.underlying37 rfl infoRJ ?_)
      | ((first
        | ((with_reducible refine at_store 37 _ _ rfl ?_); refine stW 37 _ _ rfl rfl rfl rfl HM.out infoRJ ?_; intro w9 M)
        | ((with_reducible refine at_box 37 _ rfl ?_); refine boW 37 _ rfl rfl rfl HM.out ?_; intro w9 n9 M)
        | ((with_reducible refine at_alloc 37 rfl ?_); refine alW 37 rfl rfl (zeroRJ _) HM.out ?_; intro w9 n9 M)); replace HM := Lib.hid M; clear M; clear fM; have fM := HM.out.fa))
    | (first | ((with_reducible refine at_load 33 _ rfl ?_); first | refine ldP 33 _ rfl rfl rfl HM.out HP1.out Tryz.underlying33 rfl info9 ?_ | refine ldP 33 _ rfl rfl rfl HM.out HP2.out Tryz.underlying33 rfl info9 ?_) | ((with_reducible refine at_load 34 _ rfl ?_); first | refine ldP 34 _ rfl rfl rfl HM.out HP3.out Tryz.underlying34 rfl infoN16 ?_ | refine ldP 34 _ rfl rfl rfl HM.out HP4.out Tryz.underlying34 rfl infoN16 ?_)))
  all_goals clear fM
  refine nxt HM fun w1 M => ?_
  clear HM; have HM := M; clear M
  refine (rtalk_same w1 _ _ J.T Z.T (HV1.out.ext HM.out.extTo) (HV2.out.ext HM.out.extTo) HCJ.out.len HCZ.out.len).mono ?_
  rintro r w2 ⟨rfl, hE⟩
  replace HM := Lib.hid (HM.out.ext hE)
  clear hE
  cases hst : sameT J.T Z.T with
  | false =>
    have HQ : Hid (sameJ J Z = false) := Lib.hid (by rw [HD2.out, hst]; rfl)
    clear hst HD2
    have fM := HM.out.fa
    go_wp2_with (first
      | ((with_reducible refine at_list ?_); first
        | ((with_reducible refine at_load 37 _ rfl ?_); refine ldW 37 _ rfl rfl rfl HM.out Tryz.underlying37 rfl infoRJ ?_)
        | ((first
          | ((with_reducible refine at_store 37 _ _ rfl ?_); refine stW 37 _ _ rfl rfl rfl rfl HM.out infoRJ ?_; intro w9 M)
          | ((with_reducible refine at_box 37 _ rfl ?_); refine boW 37 _ rfl rfl rfl HM.out ?_; intro w9 n9 M)
          | ((with_reducible refine at_alloc 37 rfl ?_); refine alW 37 rfl rfl (zeroRJ _) HM.out ?_; intro w9 n9 M)); replace HM := Lib.hid M; clear M; clear fM; have fM := HM.out.fa)))
    all_goals clear fM
    go_ret
    refine ⟨by rw [HQ.out]; rfl, ?_⟩
    apply Mem.extTo
    exact HM.out.to
  | true =>
    have HD3 : Hid (sameJ J Z = sameD J.put Z.put) := Lib.hid (by rw [HD2.out, hst]; rfl)
    clear hst HD2
    obtain ⟨l1, hl1⟩ : ∃ l1, J.put = l1 := ⟨_, rfl⟩
    have HPL := Lib.hid HCJ.out.put
    rw [hl1] at HD3 HVP HPL c29
    clear hl1
    by_cases e6 : l1.length = Z.put.length
    case neg =>
      have HQ : Hid (sameJ J Z = false) := Lib.hid (by rw [HD3.out]; unfold sameD; rw [decide_eq_false e6]; rfl)
      have e6' : ¬ ((l1.length : Int) = (Z.put.length : Int)) := by omega
      clear e6
      have fM := HM.out.fa
      go_wp2_with (first
        | ((with_reducible refine at_list ?_); first
          | ((with_reducible refine at_load 37 _ rfl ?_); refine ldW 37 _ rfl rfl rfl HM.out Tryz.underlying37 rfl infoRJ ?_)
          | ((first
            | ((with_reducible refine at_store 37 _ _ rfl ?_); refine stW 37 _ _ rfl rfl rfl rfl HM.out infoRJ ?_; intro w9 M)
            | ((with_reducible refine at_box 37 _ rfl ?_); refine boW 37 _ rfl rfl rfl HM.out ?_; intro w9 n9 M)
            | ((with_reducible refine at_alloc 37 rfl ?_); refine alW 37 rfl rfl (zeroRJ _) HM.out ?_; intro w9 n9 M)); replace HM := Lib.hid M; clear M; clear fM; have fM := HM.out.fa)))
      all_goals clear fM
      go_ret
      refine ⟨by rw [HQ.out]; rfl, ?_⟩
      apply Mem.extTo
      exact HM.out.to
    have HD4 : Hid (sameJ J Z = l1.all fun p => decide (p ∈ Z.put)) := Lib.hid (by rw [HD3.out]; unfold sameD; rw [decide_eq_true e6, Bool.true_and])
    obtain ⟨N, hN⟩ : ∃ N, Z.put.length = N := ⟨_, rfl⟩
    have hN1 : l1.length = N := by omega
    have HN1 := Lib.hid hN1
    rw [hN] at f29
    rw [hN1] at c29 HVP
    clear e6 hN hN1 HD3
    have fM := HM.out.fa
    go_wp2_with (first
      | ((with_reducible refine at_list ?_); first
        | ((with_reducible refine at_load 37 _ rfl ?_); refine ldW 37 _ rfl rfl rfl HM.out Tryz.underlying37 rfl infoRJ ?_)
        | ((first
          | ((with_reducible refine at_store 37 _ _ rfl ?_); refine stW 37 _ _ rfl rfl rfl rfl HM.out infoRJ ?_; intro w9 M)
          | ((with_reducible refine at_box 37 _ rfl ?_); refine boW 37 _ rfl rfl rfl HM.out ?_; intro w9 n9 M)
          | ((with_reducible refine at_alloc 37 rfl ?_); refine alW 37 rfl rfl (zeroRJ _) HM.out ?_; intro w9 n9 M)); replace HM := Lib.hid M; clear M; clear fM; have fM := HM.out.fa)))
    all_goals clear fM
    go_loopw [5] (fun i wr => ∃ k : Nat, k ≤ N ∧ i = .int .i64 k ∧ Hid (∀ j (hj : j < l1.length), j < k → l1[j] ∈ Z.put) ∧ Hid (Mem NoB w wr [cellsR nA 37 cs1, cellsR n9 37 cs2])) (fun i _ => N - (intOf i).toNat)
    case atStart =>
      refine ⟨0, Nat.zero_le _, rfl, Lib.hid fun j _ h => absurd h (by omega), Lib.hid ?_⟩
      exact Mem.sub HM.out (by repeat first | exact Sub.nil | refine Sub.cons (by with_reducible repeat first | exact ph | apply pt) ?_)
    case round =>
      clear HM
      obtain ⟨k, hk, rfl, HP, HM⟩ := hrel
      by_cases hlt : k < N
      · obtain ⟨g, o, rfl, hg, hx⟩ := RowAt.at (l := l1) (by rw [HN1.out]; exact HVP.out.ext HM.out.extTo) k (by rw [HN1.out]; exact hlt)
        obtain ⟨x, hxe⟩ : ∃ x, l1[k]'(by rw [HN1.out]; exact hlt) = x := ⟨_, rfl⟩
        rw [hxe] at hx
        have d0 : wr.cell? ⟨g, o + k * 4, none⟩ = some (.int .i64 x.kind) := hx 0 (by decide)
        have d1 : wr.cell? ⟨g, o + k * 4 + 1, none⟩ = some (.int .i64 x.member) := hx 1 (by decide)
        have d2 : wr.cell? ⟨g, o + k * 4 + 2, none⟩ = some (.int .i64 x.number) := hx 2 (by decide)
        have d3 : wr.cell? ⟨g, o + k * 4 + 3, none⟩ = some (.string (bs x.text)) := hx 3 (by decide)
        have HXE := Lib.hid hxe
        have HK := Lib.hid hlt
        have g1 : (k : Int) < (N : Int) := by omega
        have g2 : ¬ (k : Int) < 0 := by omega
        have g3 : (k : Int) < 1000000 := by have := HPL.out; have := HN1.out; omega
        have HEV := Lib.hid (show x.v = .agg #[.int .i64 x.kind, .int .i64 x.member, .int .i64 x.number, .string (bs x.text)] from rfl)
        clear hx hxe
        have fM := HM.out.fa
        go_wp2_with fail
        have hE0 : Keeps NoB wr wr.drew := (Keeps.refl _ _).drew
        refine wp_region_plan [(3, 0), (0, 1), (3, 2), (0, 3), (0, 4), (3, 5)] [] [6, 7] [6, 7] (ClsE wr) (by kernel_rfl) (by kernel_rfl) (by kernel_rfl) rfl rfl (ClsE.of hE0) (fun _ _ _ d _ h => by cases d <;> exact h) ?_; simp only [planL, nL]
        refine pXW 37 _ rfl rfl rfl HM.out Tryz.underlying37 rfl infoRJ ?_; simp only [nP]
        refine pR (v := ?_) rfl (fun W => ?_) ?_; rotate_left; (go_simp <;> with_reducible rfl); simp only [nP]
        refine pX (v := ?_) rfl ?_ ?_; rotate_left; (go_simp <;> with_reducible rfl); simp only [nP]
        refine pM _ rfl rfl ?_; simp only [nP, nE]
        refine pR (v := ?_) rfl (fun W => ?_) ?_; rotate_left; (go_simp <;> with_reducible rfl); simp only [nP]
        refine pX (v := ?_) rfl ?_ ?_; rotate_left; (go_simp <;> with_reducible rfl); simp only [nP]
        refine plan_nil ?_; simp only [tailL, List.filterMap_cons, List.filterMap_nil, nL]; change wpList _ _ _ (_ :: _ :: []) _ _
        go_wp2_with fail
        skip
        rw [← HEV.out]
        refine Mem.callE (wr := wr) HM.out.to (by repeat (first | assumption | exact Keeps.refl _ _ | with_reducible apply Keeps.drew | with_reducible apply Keeps.alloc)) fun w5 M hE5 => ?_
        replace HM := Lib.hid M
        clear M
        refine (rput_any w5 Z cs2 x (HR2.out.ext HM.out.extTo) HCZ.out.put).mono ?_
        rintro r w6 ⟨rfl, hE⟩
        replace HM := Lib.hid (HM.out.ext hE)
        have hE6 := hE5.ext hE
        clear hE
        by_cases hd : x ∈ Z.put
        · rw [decide_eq_true hd]
          clear fM
          have fM := HM.out.fa
          go_wp2_with (first
            | ((with_reducible refine at_list ?_); first
              | ((with_reducible refine at_load 37 _ rfl ?_); refine ldW 37 _ rfl rfl rfl HM.out Tryz.underlying37 rfl infoRJ ?_)
              | ((first
                | ((with_reducible refine at_store 37 _ _ rfl ?_); refine stW 37 _ _ rfl rfl rfl rfl HM.out infoRJ ?_; intro w9 M)
                | ((with_reducible refine at_box 37 _ rfl ?_); refine boW 37 _ rfl rfl rfl HM.out ?_; intro w9 n9 M)
                | ((with_reducible refine at_alloc 37 rfl ?_); refine alW 37 rfl rfl (zeroRJ _) HM.out ?_; intro w9 n9 M)); replace HM := Lib.hid M; clear M; clear fM; have fM := HM.out.fa)))
          all_goals clear fM
          go_roundw
          case rel =>
            refine ⟨k + 1, by have := HK.out; omega, by go_num, Lib.hid fun j hj h => ?_, Lib.hid (Mem.sub HM.out (by repeat first | exact Sub.nil | refine Sub.cons (by with_reducible repeat first | exact ph | apply pt) ?_))⟩
            by_cases e : j = k
            · subst e; rw [HXE.out]; exact hd
            · exact HP.out j hj (by omega)
          case measure => have := HK.out; simp [intOf]; omega
        · rw [decide_eq_false hd]
          have HQ : Hid (sameJ J Z = false) := Lib.hid (by
            rw [HD4.out, List.all_eq_false]
            exact ⟨x, by rw [← HXE.out]; exact List.getElem_mem _, by simpa using hd⟩)
          clear fM
          have fM := HM.out.fa
          go_wp2_with (first
            | ((with_reducible refine at_list ?_); first
              | ((with_reducible refine at_load 37 _ rfl ?_); refine ldW 37 _ rfl rfl rfl HM.out Tryz.underlying37 rfl infoRJ ?_)
              | ((first
                | ((with_reducible refine at_store 37 _ _ rfl ?_); refine stW 37 _ _ rfl rfl rfl rfl HM.out infoRJ ?_; intro w9 M)
                | ((with_reducible refine at_box 37 _ rfl ?_); refine boW 37 _ rfl rfl rfl HM.out ?_; intro w9 n9 M)
                | ((with_reducible refine at_alloc 37 rfl ?_); refine alW 37 rfl rfl (zeroRJ _) HM.out ?_; intro w9 n9 M)); replace HM := Lib.hid M; clear M; clear fM; have fM := HM.out.fa)))
          all_goals clear fM
          go_ret
          exact ⟨by rw [HQ.out]; rfl, HM.out.extTo⟩
      · have HQ : Hid (sameJ J Z = true) := Lib.hid (by
          rw [HD4.out, List.all_eq_true]
          intro p hp
          obtain ⟨j, hj, rfl⟩ := List.getElem_of_mem hp
          exact decide_eq_true (HP.out j hj (by have := HN1.out; omega)))
        have g1 : ¬ (k : Int) < (N : Int) := by omega
        clear hlt hk
        have fM := HM.out.fa
        go_wp2_with (first
          | ((with_reducible refine at_list ?_); first
            | ((with_reducible refine at_load 37 _ rfl ?_); refine ldW 37 _ rfl rfl rfl HM.out Tryz.underlying37 rfl infoRJ ?_)
            | ((first
              | ((with_reducible refine at_store 37 _ _ rfl ?_); refine stW 37 _ _ rfl rfl rfl rfl HM.out infoRJ ?_; intro w9 M)
              | ((with_reducible refine at_box 37 _ rfl ?_); refine boW 37 _ rfl rfl rfl HM.out ?_; intro w9 n9 M)
              | ((with_reducible refine at_alloc 37 rfl ?_); refine alW 37 rfl rfl (zeroRJ _) HM.out ?_; intro w9 n9 M)); replace HM := Lib.hid M; clear M; clear fM; have fM := HM.out.fa)))
        all_goals clear fM
        go_ret
        refine ⟨by rw [HQ.out]; rfl, ?_⟩
        apply Mem.extTo
        exact HM.out.to
end Go.Proofs.YthhdgjofagdjeaaGreatDoor
end
section
/- What JudgeCopies asks of judges told things: which are the same; several of the document's judges beside each other. Conditions: as each says. -/
set_option linter.unusedVariables false
set_option linter.unusedSimpArgs false
set_option maxHeartbeats 4000000
set_option maxRecDepth 100000
namespace Go.Proofs.YthhdgjofagdjeaaGreatDoor
open Go.RowKit
theorem came_of {J : JA} (hok : OkJ J) (hT : J.T.Ok) (hp : J.put.length ≤ 1000000) : Came J := ⟨hT, by have := hok.slot; have := hok.slot4; omega, hp⟩
theorem fits_of {J : JA} (hok : OkJ J) (h0 : 0 ≤ J.n) (h1 : 0 ≤ J.m) : Fits J := ⟨h0, hok.n, h1, hok.m, by have := hok.slot; have := hok.slot4; omega⟩
theorem sameD_self (D : List En) : sameD D D = true := by
  unfold sameD
  rw [decide_eq_true rfl, Bool.true_and, List.all_eq_true]
  exact fun p hp => decide_eq_true hp
theorem sameJ_self (J : JA) : sameJ J J = true := by
  unfold sameJ sameC sameT
  simp [sameD_self]
theorem sub_sym : ∀ (l m : List En), l.Nodup → l.length = m.length → (∀ p ∈ l, p ∈ m) → ∀ p ∈ m, p ∈ l
  | [], m, _, hl, _, p, hp => by
    obtain rfl : m = [] := List.eq_nil_of_length_eq_zero (by simpa using hl.symm)
    exact hp
  | a :: l, m, hn, hl, hs, p, hp => by
    by_cases e : p = a
    · rw [e]; exact List.mem_cons_self ..
    · have ha := hs a (List.mem_cons_self ..)
      have hn' := List.nodup_cons.1 hn
      have ih := sub_sym l (m.erase a) hn'.2 (by rw [List.length_erase_of_mem ha]; simp at hl; omega) (fun q hq => (List.mem_erase_of_ne (fun h => hn'.1 (by rw [← h]; exact hq))).2 (hs q (List.mem_cons_of_mem _ hq)))
      exact List.mem_cons_of_mem _ (ih p ((List.mem_erase_of_ne e).2 hp))
theorem sameD_sym {D E : List En} (hD : D.Nodup) (hE : E.Nodup) : sameD D E = sameD E D := by
  have key : ∀ {X Y : List En}, X.Nodup → sameD X Y = true → sameD Y X = true := fun {X Y} hX h => by
    unfold sameD at h ⊢
    rw [Bool.and_eq_true, List.all_eq_true] at h
    have hl := of_decide_eq_true h.1
    rw [decide_eq_true hl.symm, Bool.true_and, List.all_eq_true]
    exact fun p hp => decide_eq_true (sub_sym X Y hX hl (fun q hq => of_decide_eq_true (h.2 q hq)) p hp)
  cases h1 : sameD D E <;> cases h2 : sameD E D
  · rfl
  · rw [key hE h2] at h1; cases h1
  · rw [key hD h1] at h2; cases h2
  · rfl
theorem sameJ_sym {J Z : JA} (hJ : J.put.Nodup) (hZ : Z.put.Nodup) : sameJ J Z = sameJ Z J := by
  have e : ∀ {α : Type} [DecidableEq α] (a b : α), decide (a = b) = decide (b = a) := fun a b => by
    by_cases h : a = b
    · subst h; rfl
    · rw [decide_eq_false h, decide_eq_false (fun h' => h h'.symm)]
  unfold sameJ sameC sameT
  rw [sameD_sym hJ hZ, e J.told, e J.next, e J.broken, e J.n, e J.m, e J.T.slot, e J.T.l]
theorem sameJ_n {J Z : JA} (h : J.n ≠ Z.n) : sameJ J Z = false := by
  unfold sameJ
  rw [decide_eq_false h]
  simp
theorem seeR_nodup (J : JA) (x : Sn) (h : J.put.Nodup) : (seeR J x).1.put.Nodup := by
  have hp : (J.putIn x.e).put.Nodup := by
    unfold JA.putIn
    dsimp only
    split
    · exact h
    · rename_i hn
      rw [List.nodup_append]
      exact ⟨h, by simp, fun a ha b hb => by simp at hb; subst hb; exact fun e => hn (by rw [← e]; exact ha)⟩
  have hk : (kindsR J x).1.put.Nodup := by
    unfold kindsR
    split
    · unfold putR; split
      · exact hp
      · exact h
    split
    · unfold lineR
      repeat' split
      all_goals exact h
    split
    · unfold backR; repeat' split
      all_goals exact h
    split
    · unfold beganR; repeat' split
      all_goals exact h
    split
    · unfold toldR; repeat' split
      all_goals exact h
    · unfold wentR; split
      all_goals exact h
  unfold seeR
  split
  · split
    · exact hk
    · exact hk
  · exact h
theorem sees_nodup : ∀ (l : List Sn) (J : JA), J.put.Nodup → (sees J l).put.Nodup
  | [], J, h => h
  | x :: l, J, h => sees_nodup l _ (seeR_nodup J x h)
/-- what is new since a world -/
theorem Mem.newU {F : Nat → Prop} {w0 w w' : World} {L : List Res} {r : Res} (h : Mem F w0 w L) (u : Upd NoB w w' r) : Mem F w0 w' (r :: L) := by
  obtain ⟨F', h1, h2, h3⟩ := u
  exact h.new (G := F') h2 h1 fun k hk => (h3 k hk).resolve_left (noB _)
theorem Upd.pre {A : Nat → Prop} {w w1 w2 : World} {r : Res} (e : Ext w w1) (u : Upd A w1 w2 r) : Upd A w w2 r := by
  obtain ⟨F', h1, h2, h3⟩ := u
  exact ⟨F', h1, (Ext.keeps e).trans h2, fun k hk => (h3 k hk).imp id fun h => Nat.le_trans e.size h⟩
/-- some of the document's judges, that may share what they read -/
def refsR (l : List (List Value × JA)) : Res := anyR (fun F w => (∀ x ∈ l, RefAt w F x.2 x.1) ∧ ∀ k, F k → k < w.heap.size) (fun h hk hs => ⟨fun x hx => (h.1 x hx).keeps hk hs, fun k hF => Nat.lt_of_lt_of_le (h.2 k hF) hk.size⟩) (fun h => h.2)
theorem refs_one {F : Nat → Prop} {w0 w : World} {L : List Res} {cs : List Value} {J : JA} (h : Mem F w0 w (refR cs J :: L)) : Mem F w0 w (refsR [(cs, J)] :: L) :=
  h.turn fun A hA => ⟨fun x hx => by simp at hx; subst hx; exact hA.1, hA.2⟩
theorem refs_more {A : Nat → Prop} {w w' : World} {l : List (List Value × JA)} {cs : List Value} {J : JA} (h : (refsR l).p A w) (hr : RefAt w' (fun k => A k ∨ w.heap.size ≤ k) J cs) (e : Ext w w') : Upd A w w' (refsR ((cs, J) :: l)) :=
  ⟨fun k => (A k ∨ w.heap.size ≤ k) ∧ k < w'.heap.size, ⟨fun x hx => by
    rcases List.mem_cons.1 hx with rfl | hx
    · exact hr.trim
    · exact ((h.1 x hx).ext e).mono fun k hk => ⟨.inl hk, Nat.lt_of_lt_of_le (h.2 k hk) e.size⟩, fun k hk => hk.2⟩, e.keeps, fun k hk => hk.1⟩
theorem sns_two {w : World} {b : Nat} {t : TypeId} {x y : Sn} (h : Box w b t (x.cells ++ y.cells)) (hx : OkS x) (hy : OkS y) : Sns w (fun k => k = b) (.slice (some ⟨b, 0, none⟩) 2 2) [x, y] :=
  .inr ⟨b, 0, 2, rfl, Nat.le_refl _, rfl, fun i hi => by
    have hi2 : i < 2 := hi
    obtain rfl | rfl : i = 0 ∨ i = 1 := by omega
    · exact ⟨x.cells, ⟨rfl, hx⟩, rfl, fun j hj => by
        rw [Nat.zero_mul, Nat.zero_add, h.reads.1, List.getElem?_append_left (by show j < 7; exact hj)]⟩
    · exact ⟨y.cells, ⟨rfl, hy⟩, rfl, fun j hj => by
        rw [Nat.one_mul, Nat.zero_add, h.reads.1, List.getElem?_append_right (by show 7 ≤ 7 + j; omega)]
        congr 1
        show 7 + j - 7 = j
        omega⟩⟩
theorem elB {P : Program} {o : Oper} {a : Act} {w : World} {d : TypeDesc} {b n : Nat} {t : TypeId} {cs : List Value} (ty : TypeId) (x : Operand) (ho : o.op = .load ty x) (hx : a.eval x = .pointer (some ⟨b, 0, none⟩)) (hb : Box w b t cs) (hu : P.underlying ty = some d) (hd : (match d with | .struct _ | .array _ _ => true | _ => false) = true)
    (hi : (P.info? ty).map (·.size) = some n) [q : Wd n cs] : (execOp a.eval o).run P w = .ok (.value (.agg cs.toArray)) w := by
  have h1 : (loadVar ty ⟨b, 0, none⟩).run P w = .ok (.agg cs.toArray) w := run_loadVar_row w b t ty cs.toArray (0, 0) d hb hu hd (by rw [hi]; simp [q.len])
  simp [execOp, ho, hx, Instr.loadAt, Instr.sureAddr, Sem.run_bind, Result.andThen, h1]
end Go.Proofs.YthhdgjofagdjeaaGreatDoor
end
section
/- The walk of JudgeCopies. Conditions: its arguments lie as 'Sns' says; unicode/utf8's two tables read as their initialisers lay them. -/
set_option linter.unusedVariables false
set_option linter.unusedSimpArgs false
set_option maxHeartbeats 4000000
set_option maxRecDepth 100000
namespace Go.Proofs.YthhdgjofagdjeaaGreatDoor
open Go.RowKit Go.Shelf
attribute [local go_sem] Oper.semAt_some
theorem copies_few {A : Nat → Prop} (w : World) (v : Value) (l : List Sn) (x y : Sn) (h : Sns w A v l) (hl : l.length ≤ 9223372036854775807) (hA : ∀ k, A k → k < w.heap.size) (hx : OkS x) (hy : OkS y) (hT : Tabs w) (hf : fewB l 40 = false) :
    Calls Tryz.prog 4 #[v, x.v, y.v] w fun e w' => e = .returned (.bool true) ∧ Ext w w' := by
  have HV := Lib.hid h
  have HL := Lib.hid hl
  have HA := Lib.hid hA
  have HX := Lib.hid hx
  have HY := Lib.hid hy
  have HT := Lib.hid hT
  have HM := Lib.hid (Mem.start0 w)
  have HF := Lib.hid hf
  have HXV := Lib.hid (show x.v = .agg #[.int .i64 x.kind, .int .i64 x.who, .int .i64 x.index, .int .i64 x.e.kind, .int .i64 x.e.member, .int .i64 x.e.number, .string (bs x.e.text)] from rfl)
  have HYV2 := Lib.hid (show y.v = .agg #[.int .i64 y.kind, .int .i64 y.who, .int .i64 y.index, .int .i64 y.e.kind, .int .i64 y.e.member, .int .i64 y.e.number, .string (bs y.e.text)] from rfl)
  rw [HXV.out, HYV2.out]
  clear h hl hA hx hy hT hf
  go_enter Tryz.func4, Tryz.ntmps4
  have fM := HM.out.fa
  go_wp2_with fail
  all_goals clear fM
  refine nxt HM fun w1 M => ?_
  clear HM; have HM := M; clear M
  refine (few_any w1 v l 40 (HV.out.ext HM.out.extTo) HL.out (fun k hk => Nat.lt_of_lt_of_le (HA.out k hk) HM.out.extTo.size)).mono ?_
  rintro r wq ⟨rfl, hwq⟩
  rw [hwq, HF.out]
  clear hwq wq
  have fM := HM.out.fa
  go_wp2_with fail
  all_goals clear fM
  refine nxt HM fun w2 M => ?_
  clear HM; have HM := M; clear M
  refine (works_any _).mono ?_
  rintro r w3 ⟨rfl, hE⟩
  replace HM := Lib.hid (HM.out.ext hE)
  clear hE
  have fM := HM.out.fa
  go_wp2_with fail
  all_goals clear fM
  go_ret
  exact ⟨rfl, HM.out.extTo⟩
theorem copies_few2 {A : Nat → Prop} (w : World) (v : Value) (l : List Sn) (x y : Sn) (h : Sns w A v l) (hl : l.length ≤ 9223372036854775807) (hA : ∀ k, A k → k < w.heap.size) (hx : OkS x) (hy : OkS y) (hT : Tabs w) (hf : fewB l 40 = true) (hf2 : fewB [x, y] 2 = false) :
    Calls Tryz.prog 4 #[v, x.v, y.v] w fun e w' => e = .returned (.bool true) ∧ Ext w w' := by
  have HF2 := Lib.hid hf2
  clear hf2
  have HV := Lib.hid h
  have HL := Lib.hid hl
  have HA := Lib.hid hA
  have HX := Lib.hid hx
  have HY := Lib.hid hy
  have HT := Lib.hid hT
  have HM := Lib.hid (Mem.start0 w)
  have HF := Lib.hid hf
  have HXV := Lib.hid (show x.v = .agg #[.int .i64 x.kind, .int .i64 x.who, .int .i64 x.index, .int .i64 x.e.kind, .int .i64 x.e.member, .int .i64 x.e.number, .string (bs x.e.text)] from rfl)
  have HYV2 := Lib.hid (show y.v = .agg #[.int .i64 y.kind, .int .i64 y.who, .int .i64 y.index, .int .i64 y.e.kind, .int .i64 y.e.member, .int .i64 y.e.number, .string (bs y.e.text)] from rfl)
  rw [HXV.out, HYV2.out]
  clear h hl hA hx hy hT hf
  go_enter Tryz.func4, Tryz.ntmps4
  have fM := HM.out.fa
  go_wp2_with fail
  all_goals clear fM
  refine nxt HM fun w1 M => ?_
  clear HM; have HM := M; clear M
  refine (few_any w1 v l 40 (HV.out.ext HM.out.extTo) HL.out (fun k hk => Nat.lt_of_lt_of_le (HA.out k hk) HM.out.extTo.size)).mono ?_
  rintro r wq ⟨rfl, hwq⟩
  rw [hwq, HF.out]
  clear hwq wq
  have fM := HM.out.fa
  go_wp2_with fail
  all_goals clear fM
  refine nxt HM fun w2 M => ?_
  clear HM; have HM := M; clear M
  obtain ⟨Ahb, hb⟩ := HM.out.get (r := cellsR w1.heap.size 56 [.int .i64 x.kind, .int .i64 x.who, .int .i64 x.index, .int .i64 x.e.kind, .int .i64 x.e.member, .int .i64 x.e.number, .string (bs x.e.text), .int .i64 y.kind, .int .i64 y.who, .int .i64 y.index, .int .i64 y.e.kind, .int .i64 y.e.member, .int .i64 y.e.number, .string (bs y.e.text)]) (by with_reducible repeat first | exact ph | apply pt)
  refine (few_any w2 _ [x, y] 2 (sns_two hb.2 HX.out HY.out) (by simp) (fun k hk => by rw [hk]; exact hb.2.lt)).mono ?_
  rintro r wq ⟨rfl, hwq⟩
  rw [hwq, HF2.out]
  clear hwq wq hb
  try clear Ahb
  have fM := HM.out.fa
  go_wp2_with fail
  all_goals clear fM
  refine (works_any _).mono ?_
  rintro r w3 ⟨rfl, hE⟩
  replace HM := Lib.hid (HM.out.ext hE)
  clear hE
  have fM := HM.out.fa
  go_wp2_with fail
  all_goals clear fM
  go_ret
  exact ⟨rfl, HM.out.extTo⟩
theorem Mem.step2 {F : Nat → Prop} {w0 w : World} {L : List Res} {r : Res} (h : Mem F w0 w (r :: L)) : ∃ A, r.p A w ∧ (∀ k, A k → F k ∨ w0.heap.size ≤ k) ∧ (∀ (r' : Res) (w' : World), Upd A w w' r' → Mem F w0 w' (r' :: L)) ∧ ∀ b t cs L2, Pick L (cellsR b t cs) L2 → ¬ A b := by
  obtain ⟨a, G, ⟨A, B, h1, h2, h3, h4⟩, c⟩ := h
  have hA := fun k hk => c k ((h4 k).2 (.inl hk))
  refine ⟨A, h1, hA, fun r' w' ⟨A', u1, u2, u3⟩ => ?_, fun b t cs L2 p hb => ?_⟩
  · have hB := fun k hk => c k ((h4 k).2 (.inr hk))
    have hlt := h2.lt
    refine ⟨a.then u2 fun i hi h => ?_, fun k => A' k ∨ B k, ⟨A', B, u1, h2.keeps u2 fun k hk hA' => h3 k hA' hk, fun k h5 h6 => ?_, fun k => Iff.rfl⟩, fun k hk => ?_⟩
    · rcases hA i h with h | h
      · exact h
      · omega
    · rcases u3 k h5 with h | h
      · exact h3 k h h6
      · have := hlt k h6; omega
    · rcases hk with hk | hk
      · rcases u3 k hk with h | h
        · exact hA k h
        · have := a.size; exact .inr (by omega)
      · exact hB k hk
  · obtain ⟨C, D, g1, g2, g3, g4⟩ := p.sep h2
    exact h3 b hb ((g4 b).2 (.inl ((g1.1 b).2 rfl)))
theorem copies_in {A : Nat → Prop} (w : World) (v : Value) (l : List Sn) (x y : Sn) (h : Sns w A v l) (hl : l.length ≤ 9223372036854775807) (hA : ∀ k, A k → k < w.heap.size) (hx : OkS x) (hy : OkS y) (hT : Tabs w) (hf : fewB l 40 = true) (hf2 : fewB [x, y] 2 = true) :
    Calls Tryz.prog 4 #[v, x.v, y.v] w fun e w' => e = .returned (.bool true) ∧ Ext w w' := by
  have HF2 := Lib.hid hf2
  clear hf2
  have HV := Lib.hid h
  have HL := Lib.hid hl
  have HA := Lib.hid hA
  have HX := Lib.hid hx
  have HY := Lib.hid hy
  have HT := Lib.hid hT
  have HM := Lib.hid (Mem.start0 w)
  have HF := Lib.hid hf
  have HXV := Lib.hid (show x.v = .agg #[.int .i64 x.kind, .int .i64 x.who, .int .i64 x.index, .int .i64 x.e.kind, .int .i64 x.e.member, .int .i64 x.e.number, .string (bs x.e.text)] from rfl)
  have HYV2 := Lib.hid (show y.v = .agg #[.int .i64 y.kind, .int .i64 y.who, .int .i64 y.index, .int .i64 y.e.kind, .int .i64 y.e.member, .int .i64 y.e.number, .string (bs y.e.text)] from rfl)
  rw [HXV.out, HYV2.out]
  clear h hl hA hx hy hT hf
  go_enter Tryz.func4, Tryz.ntmps4
  have fM := HM.out.fa
  go_wp2_with fail
  all_goals clear fM
  refine nxt HM fun w1 M => ?_
  clear HM; have HM := M; clear M
  refine (few_any w1 v l 40 (HV.out.ext HM.out.extTo) HL.out (fun k hk => Nat.lt_of_lt_of_le (HA.out k hk) HM.out.extTo.size)).mono ?_
  rintro r wq ⟨rfl, hwq⟩
  rw [hwq, HF.out]
  clear hwq wq
  have fM := HM.out.fa
  go_wp2_with fail
  all_goals clear fM
  refine nxt HM fun w2 M => ?_
  clear HM; have HM := M; clear M
  obtain ⟨Ahb, hb⟩ := HM.out.get (r := cellsR w1.heap.size 56 [.int .i64 x.kind, .int .i64 x.who, .int .i64 x.index, .int .i64 x.e.kind, .int .i64 x.e.member, .int .i64 x.e.number, .string (bs x.e.text), .int .i64 y.kind, .int .i64 y.who, .int .i64 y.index, .int .i64 y.e.kind, .int .i64 y.e.member, .int .i64 y.e.number, .string (bs y.e.text)]) (by with_reducible repeat first | exact ph | apply pt)
  refine (few_any w2 _ [x, y] 2 (sns_two hb.2 HX.out HY.out) (by simp) (fun k hk => by rw [hk]; exact hb.2.lt)).mono ?_
  rintro r wq ⟨rfl, hwq⟩
  rw [hwq, HF2.out]
  clear hwq wq hb
  try clear Ahb
  have fM := HM.out.fa
  go_wp2_with fail
  all_goals clear fM
  refine nxt HM fun w3 M => ?_
  clear HM; have HM := M; clear M
  refine (judge_new_ok w3 3 4 (by unfold RightC; decide) (by decide) (by decide)).mono ?_
  rintro r w4 ⟨b, F, rfl, hJ, hE, hN⟩
  replace HM := Lib.hid (HM.out.new (r := judgeR b (J0 3 4)) hE hJ hN)
  clear hJ hE hN
  have fM := HM.out.fa
  go_wp2_with fail
  all_goals clear fM
  refine nxt HM fun w5 M => ?_
  clear HM; have HM := M; clear M
  refine (rnew_any w5 3 4 (by unfold RightC; decide) (by decide) (by decide)).mono ?_
  rintro r w6 ⟨cs, rfl, hR, hE⟩
  replace HM := Lib.hid (HM.out.new (r := refR cs (J0 3 4)) hE ⟨hR, fun k h => (noB _ h).elim⟩ (fun k h => (noB _ h).elim))
  obtain ⟨-, -, -, -, hlen, hone, -⟩ := hR.open
  have HLEN := Lib.hid hlen
  have HONE := Lib.hid hone
  have HWD : Wd _ _ := ⟨HLEN.out, HONE.out⟩
  clear hR hE hlen hone
  have fM := HM.out.fa
  go_wp2_with (first
    | ((with_reducible refine at_list ?_); first
      | ((with_reducible refine at_load 37 _ rfl ?_); refine ldW 37 _ rfl rfl rfl HM.out Tryz.underlying37 rfl infoRJ ?_)
      | ((first
        | ((with_reducible refine at_store 37 _ _ rfl ?_); refine stW 37 _ _ rfl rfl rfl rfl HM.out infoRJ ?_; intro w9 M)
        | ((with_reducible refine at_box 37 _ rfl ?_); refine boW 37 _ rfl rfl rfl HM.out ?_; intro w9 n9 M)
        | ((with_reducible refine at_alloc 37 rfl ?_); refine alW 37 rfl rfl (zeroRJ _) HM.out ?_; intro w9 n9 M)); replace HM := Lib.hid M; clear M; clear fM; have fM := HM.out.fa)))
  all_goals clear fM
  rename Nat => nw
  go_loopw [11] (fun i wr => ∃ (k : Nat) (cs : List Value), k ≤ l.length ∧ i = .int .i64 k ∧ Hid (cs.length = 31) ∧ Hid (∀ u ∈ cs, u.oneCell' = true) ∧ Hid (Mem NoB w wr [cellsR nw 37 cs, refR cs (sees (J0 3 4) (l.take k)), judgeR b (sees (J0 3 4) (l.take k)), cellsR (w.heap.size + 1) 56 [.int .i64 y.kind, .int .i64 y.who, .int .i64 y.index, .int .i64 y.e.kind, .int .i64 y.e.member, .int .i64 y.e.number, .string (bs y.e.text)], cellsR w.heap.size 56 [.int .i64 x.kind, .int .i64 x.who, .int .i64 x.index, .int .i64 x.e.kind, .int .i64 x.e.member, .int .i64 x.e.number, .string (bs x.e.text)]])) (fun i _ => l.length - (intOf i).toNat)
  case atStart =>
    refine ⟨0, cs, Nat.zero_le _, rfl, HLEN, HONE, Lib.hid ?_⟩
    rw [show sees (J0 3 4) (l.take 0) = J0 3 4 from rfl]
    exact Mem.sub HM.out (by repeat first | exact Sub.nil | refine Sub.cons (by with_reducible repeat first | exact ph | apply pt) ?_)
  case round =>
    clear HLEN HONE HM
    obtain ⟨k, cs, hk, rfl, HLEN, HONE, HM⟩ := hrel
    have HWD : Wd _ _ := ⟨HLEN.out, HONE.out⟩
    obtain ⟨hfx, hfl⟩ := fewB_text HF.out
    by_cases hlt : k < l.length
    · have hok := sees_ok (l.take k) (J0 3 4) (OkJ.new (by unfold RightC; decide) (by decide)) T0_ok
      have hsn : sees (J0 3 4) (l.take (k + 1)) = (seeR (sees (J0 3 4) (l.take k)) l[k]).1 := by rw [List.take_succ_eq_append_getElem hlt, sees_snoc]
      obtain ⟨J, hJ⟩ : ∃ J, sees (J0 3 4) (l.take k) = J := ⟨_, rfl⟩
      rw [hJ] at hok hsn HM
      obtain ⟨a, c, rfl⟩ := HV.out.len
      obtain ⟨g, o, rfl, -⟩ := (HV.out.ext HM.out.extTo).at k hlt
      have hox := HV.out.ok _ (List.getElem_mem hlt)
      have hxt := hfx _ (List.getElem_mem hlt)
      obtain ⟨z, hz⟩ : ∃ z, l[k] = z := ⟨_, rfl⟩
      rw [hz] at hsn hox hxt
      have HZE := Lib.hid hz
      obtain ⟨g2, o2, hgo, hg, -, hx⟩ := (HV.out.ext HM.out.extTo).at k hlt
      cases hgo
      rw [HZE.out] at hx
      have hgl : g < wr.heap.size := Nat.lt_of_lt_of_le (HA.out g hg) HM.out.extTo.size
      have d0 : wr.cell? ⟨g, o + k * 7, none⟩ = some (.int .i64 z.kind) := hx 0 (by decide)
      have d1 : wr.cell? ⟨g, o + k * 7 + 1, none⟩ = some (.int .i64 z.who) := hx 1 (by decide)
      have d2 : wr.cell? ⟨g, o + k * 7 + 2, none⟩ = some (.int .i64 z.index) := hx 2 (by decide)
      have d3 : wr.cell? ⟨g, o + k * 7 + 3, none⟩ = some (.int .i64 z.e.kind) := hx 3 (by decide)
      have d4 : wr.cell? ⟨g, o + k * 7 + 4, none⟩ = some (.int .i64 z.e.member) := hx 4 (by decide)
      have d5 : wr.cell? ⟨g, o + k * 7 + 5, none⟩ = some (.int .i64 z.e.number) := hx 5 (by decide)
      have d6 : wr.cell? ⟨g, o + k * 7 + 6, none⟩ = some (.string (bs z.e.text)) := hx 6 (by decide)
      clear hx hg
      have g1 : (k : Int) < (l.length : Int) := by omega
      have g2 : ¬ (k : Int) < 0 := by omega
      have g3 : (k : Int) < 40 := by omega
      have HOK := Lib.hid hok
      have HSN := Lib.hid hsn
      have HOX := Lib.hid hox
      have HXT := Lib.hid hxt
      have HZV := Lib.hid (show z.v = .agg #[.int .i64 z.kind, .int .i64 z.who, .int .i64 z.index, .int .i64 z.e.kind, .int .i64 z.e.member, .int .i64 z.e.number, .string (bs z.e.text)] from rfl)
      clear hok hsn hox hxt hJ hz hfx hfl
      have fM := HM.out.fa
      go_wp2_with fail
      have hE0 : Keeps NoB wr wr.drew := (Keeps.refl _ _).drew
      refine wp_region_plan [(3, 0), (0, 1), (0, 2), (0, 3), (3, 4), (2, 5), (0, 6), (0, 7), (0, 8)] [] [5, 9] [9] (ClsE wr) (by kernel_rfl) (by kernel_rfl) (by kernel_rfl) rfl rfl (ClsE.of hE0) (fun _ _ _ d _ h => by cases d <;> exact h) ?_; simp only [planL, nL]
      refine pXW 37 _ rfl rfl rfl HM.out Tryz.underlying37 rfl infoRJ ?_; simp only [nP]
      iterate 2 (refine pM _ rfl rfl ?_; simp only [nP, nE])
      refine pR (v := ?_) rfl (fun W => ?_) ?_; rotate_left; (go_simp <;> with_reducible rfl); simp only [nP]
      refine pX (v := ?_) rfl ?_ ?_; rotate_left; (go_simp <;> with_reducible rfl); simp only [nP]
      refine plan_does rfl (fun K hK => ?_)
      go_wp2_with fail
      skip
      rw [← HZV.out]
      obtain ⟨A', hA', -, hS⟩ := ((HM.out.drew).pick (r := refR cs J) (by with_reducible repeat first | exact ph | apply pt)).step'
      refine Calls.mono (rsee_any wr.drew J cs z hA'.1 hA'.2 ⟨HOK.out.1, HOK.out.2.1, by have := HOK.out.2.2; rw [List.length_take] at this; have : (J0 3 4).put.length = 0 := rfl; omega⟩ (by have := HOK.out.2.2; rw [List.length_take] at this; have : (J0 3 4).put.length = 0 := rfl; omega) (by have := HXT.out; omega)) ?_
      rintro r w2 ⟨cs', rfl, hR', hE⟩
      have hE2 : Ext wr w2 := hE0.ext hE
      obtain ⟨-, -, -, -, hlen', hone', -⟩ := hR'.open
      have HLEN1 := Lib.hid hlen'
      have HONE1 := Lib.hid hone'
      have HWD1 : Wd _ _ := ⟨HLEN1.out, HONE1.out⟩
      replace HM := Lib.hid (hS _ _ (hR'.upd hE))
      clear hA' hS hR' hE hlen' hone'
      refine hK _ _ ⟨ClsE.of (by assumption), ?_⟩; clear hK K; try simp only [nP]
      refine pM _ rfl rfl ?_; simp only [nP, nE]
      iterate 2 (refine pR (v := ?_) rfl (fun W => ?_) ?_; rotate_left; (go_simp <;> with_reducible rfl); simp only [nP])
      refine plan_nil ?_; simp only [tailL, List.filterMap_cons, List.filterMap_nil, nL]; change wpList _ _ _ (_ :: []) _ _
      clear fM
      clear d0 d1 d2 d3 d4 d5 d6 hE2 hE0
      have fM := HM.out.fa
      go_wp2_with (first
        | ((with_reducible refine at_list ?_); first
          | ((with_reducible refine at_load 37 _ rfl ?_); refine ldW 37 _ rfl rfl rfl HM.out Tryz.underlying37 rfl infoRJ ?_)
          | ((first
            | ((with_reducible refine at_store 37 _ _ rfl ?_); refine stW 37 _ _ rfl rfl rfl rfl HM.out infoRJ ?_; intro w9 M)
            | ((with_reducible refine at_box 37 _ rfl ?_); refine boW 37 _ rfl rfl rfl HM.out ?_; intro w9 n9 M)
            | ((with_reducible refine at_alloc 37 rfl ?_); refine alW 37 rfl rfl (zeroRJ _) HM.out ?_; intro w9 n9 M)); replace HM := Lib.hid M; clear M; clear fM; have fM := HM.out.fa; refine standing ?_)))
      all_goals clear fM
      refine ⟨?_⟩
      obtain ⟨g2, o2, hgo, hg, -, hx⟩ := (HV.out.ext HM.out.extTo).at k hlt
      cases hgo
      rw [HZE.out] at hx
      have hgl : g < w9.heap.size := Nat.lt_of_lt_of_le (HA.out g hg) HM.out.extTo.size
      have d0 : w9.cell? ⟨g, o + k * 7, none⟩ = some (.int .i64 z.kind) := hx 0 (by decide)
      have d1 : w9.cell? ⟨g, o + k * 7 + 1, none⟩ = some (.int .i64 z.who) := hx 1 (by decide)
      have d2 : w9.cell? ⟨g, o + k * 7 + 2, none⟩ = some (.int .i64 z.index) := hx 2 (by decide)
      have d3 : w9.cell? ⟨g, o + k * 7 + 3, none⟩ = some (.int .i64 z.e.kind) := hx 3 (by decide)
      have d4 : w9.cell? ⟨g, o + k * 7 + 4, none⟩ = some (.int .i64 z.e.member) := hx 4 (by decide)
      have d5 : w9.cell? ⟨g, o + k * 7 + 5, none⟩ = some (.int .i64 z.e.number) := hx 5 (by decide)
      have d6 : w9.cell? ⟨g, o + k * 7 + 6, none⟩ = some (.string (bs z.e.text)) := hx 6 (by decide)
      clear hx hg
      have fM := HM.out.fa
      go_wp2_with fail
      all_goals clear fM
      rw [← HZV.out]
      clear d0 d1 d2 d3 d4 d5 d6
      refine nxt HM fun w10 M => ?_
      clear HM; have HM := M; clear M
      obtain ⟨A', hA', hAF, hS⟩ := (HM.out.pick (r := judgeR b J) (by with_reducible repeat first | exact ph | apply pt)).step'
      have hk1 := HM.out.keepsTo
      refine (see_any w10 b J z hA' HOK.out.1 (HOX.out).e (HOX.out).kind (HOX.out).e.1 (fun h w2 h2 => check_chk w w2 HT.out (hk1.then h2 fun i hi h => by
        rcases hAF i h with h | h
        · exact h
        · omega) (z).e.text (by have := HXT.out; omega))).mono ?_
      rintro r w11 ⟨rfl, hU⟩
      replace HM := Lib.hid (hS _ _ hU)
      clear hU hA' hAF hS hk1
      clear A'
      have fM := HM.out.fa
      go_wp2_with fail
      all_goals clear fM
      go_roundw
      case rel =>
        refine ⟨k + 1, cs', by omega, by go_num, HLEN1, HONE1, Lib.hid ?_⟩
        rw [HSN.out]
        exact Mem.sub HM.out (by repeat first | exact Sub.nil | refine Sub.cons (by with_reducible repeat first | exact ph | apply pt) ?_)
      case measure => simp [intOf]; omega
    · obtain rfl : k = l.length := by omega
      rw [List.take_length] at HM
      clear hlt hk hfl hfx
      have hxt := (fewB_text HF2.out).1 x (by simp)
      have hyt := (fewB_text HF2.out).1 y (by simp)
      have HXT := Lib.hid hxt
      have HYT := Lib.hid hyt
      have hok := sees_ok l (J0 3 4) (OkJ.new (by unfold RightC; decide) (by decide)) T0_ok
      have hnm := sees_nm l (J0 3 4)
      have hnd := sees_nodup l (J0 3 4) List.nodup_nil
      have hf40 := (fewB_text HF.out).2
      have hpl : (sees (J0 3 4) l).put.length ≤ 40 := by have := hok.2.2; have : (J0 3 4).put.length = 0 := rfl; omega
      obtain ⟨J, hJ⟩ : ∃ J, sees (J0 3 4) l = J := ⟨_, rfl⟩
      rw [hJ] at hok HM hnm hnd hpl
      have hst := seeR_st J x hok.2.1
      have hst2 := seeR_st J y hok.2.1
      have HFJ := Lib.hid (fits_of hok.1 (by rw [hnm.1]; decide) (by rw [hnm.2]; decide))
      have HFA := Lib.hid (fits_of (hok.1.see x) (by rw [(seeR_nm J x).1, hnm.1]; decide) (by rw [(seeR_nm J x).2, hnm.2]; decide))
      have HFB := Lib.hid (fits_of (hok.1.see y) (by rw [(seeR_nm J y).1, hnm.1]; decide) (by rw [(seeR_nm J y).2, hnm.2]; decide))
      have HCJ := Lib.hid (came_of hok.1 hok.2.1 (by omega))
      have HCA := Lib.hid (came_of (hok.1.see x) hst.1 (by omega))
      have HCB := Lib.hid (came_of (hok.1.see y) hst2.1 (by omega))
      have HC5 := Lib.hid (came_of (OkJ.new (c := 5) (m := 4) (by unfold RightC; decide) (by decide)) T0_ok (by show (0 : Nat) ≤ 1000000; omega))
      have HNE := Lib.hid (sameJ_n (J := J) (Z := J0 5 4) (by rw [hnm.1]; decide))
      have HSYM := Lib.hid (sameJ_sym (J := J) (Z := (seeR J x).1) hnd (seeR_nodup J x hnd))
      have HOK := Lib.hid hok
      have HPL := Lib.hid hpl
      clear hok hJ hnm hnd hpl hst hst2 hxt hyt hf40
      obtain ⟨a, c, rfl⟩ := HV.out.len
      replace HM := Lib.hid (refs_one (HM.out.pick (r := refR cs J) (by with_reducible repeat first | exact ph | apply pt)))
      have fM := HM.out.fa
      go_wp2_with (first
        | ((with_reducible refine at_list ?_); first
          | ((with_reducible refine at_load 37 _ rfl ?_); refine ldW 37 _ rfl rfl rfl HM.out Tryz.underlying37 rfl infoRJ ?_)
          | ((first
            | ((with_reducible refine at_store 37 _ _ rfl ?_); refine stW 37 _ _ rfl rfl rfl rfl HM.out infoRJ ?_; intro w9 M)
            | ((with_reducible refine at_box 37 _ rfl ?_); refine boW 37 _ rfl rfl rfl HM.out ?_; intro w9 n9 M)
            | ((with_reducible refine at_alloc 37 rfl ?_); refine alW 37 rfl rfl (zeroRJ _) HM.out ?_; intro w9 n9 M)); replace HM := Lib.hid M; clear M; clear fM; have fM := HM.out.fa)))
      all_goals clear fM
      refine nxt HM fun w10 M => ?_
      clear HM; have HM := M; clear M
      obtain ⟨Ahj, hj⟩ := HM.out.get (r := judgeR b J) (by with_reducible repeat first | exact ph | apply pt)
      refine (judge_copy w10 b J hj HCJ.out).mono ?_
      rintro r w11 ⟨bc, rfl, hU⟩
      replace HM := Lib.hid (HM.out.newU hU)
      clear hU hj
      have fM := HM.out.fa
      go_wp2_with (first
        | ((with_reducible refine at_list ?_); first
          | ((with_reducible refine at_load 37 _ rfl ?_); refine ldW 37 _ rfl rfl rfl HM.out Tryz.underlying37 rfl infoRJ ?_)
          | ((first
            | ((with_reducible refine at_store 37 _ _ rfl ?_); refine stW 37 _ _ rfl rfl rfl rfl HM.out infoRJ ?_; intro w9 M)
            | ((with_reducible refine at_box 37 _ rfl ?_); refine boW 37 _ rfl rfl rfl HM.out ?_; intro w9 n9 M)
            | ((with_reducible refine at_alloc 37 rfl ?_); refine alW 37 rfl rfl (zeroRJ _) HM.out ?_; intro w9 n9 M)); replace HM := Lib.hid M; clear M; clear fM; have fM := HM.out.fa)))
      all_goals clear fM
      refine nxt HM fun w12 M => ?_
      clear HM; have HM := M; clear M
      refine (judge_new_ok w12 5 4 (by unfold RightC; decide) (by decide) (by decide)).mono ?_
      rintro r w13 ⟨bo, F', rfl, hJ, hE, hN⟩
      replace HM := Lib.hid (HM.out.new (r := judgeR bo (J0 5 4)) hE hJ hN)
      clear hJ hE hN
      have fM := HM.out.fa
      go_wp2_with (first
        | ((with_reducible refine at_list ?_); first
          | ((with_reducible refine at_load 37 _ rfl ?_); refine ldW 37 _ rfl rfl rfl HM.out Tryz.underlying37 rfl infoRJ ?_)
          | ((first
            | ((with_reducible refine at_store 37 _ _ rfl ?_); refine stW 37 _ _ rfl rfl rfl rfl HM.out infoRJ ?_; intro w9 M)
            | ((with_reducible refine at_box 37 _ rfl ?_); refine boW 37 _ rfl rfl rfl HM.out ?_; intro w9 n9 M)
            | ((with_reducible refine at_alloc 37 rfl ?_); refine alW 37 rfl rfl (zeroRJ _) HM.out ?_; intro w9 n9 M)); replace HM := Lib.hid M; clear M; clear fM; have fM := HM.out.fa)))
      all_goals clear fM
      refine (num_any _ _).mono ?_
      rintro r wq ⟨rfl, hwq⟩
      rw [hwq]
      clear hwq wq
      have fM := HM.out.fa
      go_wp2_with (first
        | ((with_reducible refine at_list ?_); first
          | ((with_reducible refine at_load 37 _ rfl ?_); refine ldW 37 _ rfl rfl rfl HM.out Tryz.underlying37 rfl infoRJ ?_)
          | ((first
            | ((with_reducible refine at_store 37 _ _ rfl ?_); refine stW 37 _ _ rfl rfl rfl rfl HM.out infoRJ ?_; intro w9 M)
            | ((with_reducible refine at_box 37 _ rfl ?_); refine boW 37 _ rfl rfl rfl HM.out ?_; intro w9 n9 M)
            | ((with_reducible refine at_alloc 37 rfl ?_); refine alW 37 rfl rfl (zeroRJ _) HM.out ?_; intro w9 n9 M)); replace HM := Lib.hid M; clear M; clear fM; have fM := HM.out.fa)))
      all_goals clear fM
      refine nxt HM fun w12 M => ?_
      clear HM; have HM := M; clear M
      obtain ⟨Ahj, hj⟩ := HM.out.get (r := judgeR b J) (by with_reducible repeat first | exact ph | apply pt)
      obtain ⟨Ahz, hz⟩ := HM.out.get (r := judgeR bc J) (by with_reducible repeat first | exact ph | apply pt)
      refine (judge_same w12 b bc J J hj hz HCJ.out HCJ.out).mono ?_
      rintro r w13 ⟨rfl, hE⟩
      replace HM := Lib.hid (HM.out.ext hE)
      clear hE hj hz
      rw [sameJ_self]
      have fM := HM.out.fa
      go_wp2_with (first
        | ((with_reducible refine at_list ?_); first
          | ((with_reducible refine at_load 37 _ rfl ?_); refine ldW 37 _ rfl rfl rfl HM.out Tryz.underlying37 rfl infoRJ ?_)
          | ((first
            | ((with_reducible refine at_store 37 _ _ rfl ?_); refine stW 37 _ _ rfl rfl rfl rfl HM.out infoRJ ?_; intro w9 M)
            | ((with_reducible refine at_box 37 _ rfl ?_); refine boW 37 _ rfl rfl rfl HM.out ?_; intro w9 n9 M)
            | ((with_reducible refine at_alloc 37 rfl ?_); refine alW 37 rfl rfl (zeroRJ _) HM.out ?_; intro w9 n9 M)); replace HM := Lib.hid M; clear M; clear fM; have fM := HM.out.fa)))
      all_goals clear fM
      refine nxt HM fun w12 M => ?_
      clear HM; have HM := M; clear M
      obtain ⟨Ahj, hj⟩ := HM.out.get (r := judgeR b J) (by with_reducible repeat first | exact ph | apply pt)
      obtain ⟨Ahz, hz⟩ := HM.out.get (r := judgeR bo (J0 5 4)) (by with_reducible repeat first | exact ph | apply pt)
      refine (judge_same w12 b bo J (J0 5 4) hj hz HCJ.out HC5.out).mono ?_
      rintro r w13 ⟨rfl, hE⟩
      replace HM := Lib.hid (HM.out.ext hE)
      clear hE hj hz
      rw [HNE.out]
      have fM := HM.out.fa
      go_wp2_with (first
        | ((with_reducible refine at_list ?_); first
          | ((with_reducible refine at_load 37 _ rfl ?_); refine ldW 37 _ rfl rfl rfl HM.out Tryz.underlying37 rfl infoRJ ?_)
          | ((first
            | ((with_reducible refine at_store 37 _ _ rfl ?_); refine stW 37 _ _ rfl rfl rfl rfl HM.out infoRJ ?_; intro w9 M)
            | ((with_reducible refine at_box 37 _ rfl ?_); refine boW 37 _ rfl rfl rfl HM.out ?_; intro w9 n9 M)
            | ((with_reducible refine at_alloc 37 rfl ?_); refine alW 37 rfl rfl (zeroRJ _) HM.out ?_; intro w9 n9 M)); replace HM := Lib.hid M; clear M; clear fM; have fM := HM.out.fa)))
      all_goals clear fM
      refine nxt HM fun w14 M => ?_
      clear HM; have HM := M; clear M
      obtain ⟨Ahj, hj⟩ := HM.out.get (r := judgeR bc J) (by with_reducible repeat first | exact ph | apply pt)
      obtain ⟨Ahr, hr⟩ := HM.out.get (r := refsR [(cs, J)]) (by with_reducible repeat first | exact ph | apply pt)
      refine (is_any w14 bc J cs hj (hr.1 _ (List.mem_cons_self ..)) HFJ.out).mono ?_
      rintro r w15 ⟨rfl, hE⟩
      replace HM := Lib.hid (HM.out.ext hE)
      clear hE hj hr
      have fM := HM.out.fa
      go_wp2_with (first
        | ((with_reducible refine at_list ?_); first
          | ((with_reducible refine at_load 37 _ rfl ?_); refine ldW 37 _ rfl rfl rfl HM.out Tryz.underlying37 rfl infoRJ ?_)
          | ((first
            | ((with_reducible refine at_store 37 _ _ rfl ?_); refine stW 37 _ _ rfl rfl rfl rfl HM.out infoRJ ?_; intro w9 M)
            | ((with_reducible refine at_box 37 _ rfl ?_); refine boW 37 _ rfl rfl rfl HM.out ?_; intro w9 n9 M)
            | ((with_reducible refine at_alloc 37 rfl ?_); refine alW 37 rfl rfl (zeroRJ _) HM.out ?_; intro w9 n9 M)); replace HM := Lib.hid M; clear M; clear fM; have fM := HM.out.fa)))
      all_goals clear fM
      rw [← HXV.out]
      refine nxt HM fun w16 M => ?_
      clear HM; have HM := M; clear M
      obtain ⟨A', hA', -, hS⟩ := (HM.out.pick (r := refsR [(cs, J)]) (by with_reducible repeat first | exact ph | apply pt)).step'
      refine (rsee_any w16 J cs x (hA'.1 (cs, J) (by simp)) hA'.2 ⟨HOK.out.1, HOK.out.2.1, by have := HPL.out; omega⟩ (by have := HPL.out; omega) (by have := HXT.out; omega)).mono ?_
      rintro r w17 ⟨csa, rfl, hR', hE⟩
      obtain ⟨-, -, -, -, hlen', hone', -⟩ := hR'.open
      have HWcsa : Wd 31 csa := ⟨hlen', hone'⟩
      replace HM := Lib.hid (hS _ _ (refs_more hA' hR' hE))
      clear hA' hS hR' hE hlen' hone'
      clear A'
      have fM := HM.out.fa
      go_wp2_with (first
        | ((with_reducible refine at_list ?_); first
          | ((with_reducible refine at_load 37 _ rfl ?_); refine ldW 37 _ rfl rfl rfl HM.out Tryz.underlying37 rfl infoRJ ?_)
          | ((first
            | ((with_reducible refine at_store 37 _ _ rfl ?_); refine stW 37 _ _ rfl rfl rfl rfl HM.out infoRJ ?_; intro w9 M)
            | ((with_reducible refine at_box 37 _ rfl ?_); refine boW 37 _ rfl rfl rfl HM.out ?_; intro w9 n9 M)
            | ((with_reducible refine at_alloc 37 rfl ?_); refine alW 37 rfl rfl (zeroRJ _) HM.out ?_; intro w9 n9 M)); replace HM := Lib.hid M; clear M; clear fM; have fM := HM.out.fa)))
      all_goals clear fM
      rename Nat => na
      refine nxt HM fun w18 M => ?_
      clear HM; have HM := M; clear M
      obtain ⟨Ahr, hr⟩ := HM.out.get (r := refsR [(csa, (seeR J x).1), (cs, J)]) (by with_reducible repeat first | exact ph | apply pt)
      refine (rsame_any w18 (seeR J x).1 J csa cs (hr.1 (csa, (seeR J x).1) (by simp)) (hr.1 (cs, J) (by simp)) HCA.out HCJ.out).mono ?_
      rintro r w19 ⟨rfl, hE⟩
      replace HM := Lib.hid (HM.out.ext hE)
      clear hE hr
      obtain ⟨s, hs⟩ : ∃ s, sameJ (seeR J x).1 J = s := ⟨_, rfl⟩
      have HS1 := Lib.hid hs
      rw [hs]
      clear hs
      rw [HXV.out]
      have fM := HM.out.fa
      go_wp2_with (first
        | ((with_reducible refine at_list ?_); first
          | ((with_reducible refine at_load 37 _ rfl ?_); refine ldW 37 _ rfl rfl rfl HM.out Tryz.underlying37 rfl infoRJ ?_)
          | ((first
            | ((with_reducible refine at_store 37 _ _ rfl ?_); refine stW 37 _ _ rfl rfl rfl rfl HM.out infoRJ ?_; intro w9 M)
            | ((with_reducible refine at_box 37 _ rfl ?_); refine boW 37 _ rfl rfl rfl HM.out ?_; intro w9 n9 M)
            | ((with_reducible refine at_alloc 37 rfl ?_); refine alW 37 rfl rfl (zeroRJ _) HM.out ?_; intro w9 n9 M)); replace HM := Lib.hid M; clear M; clear fM; have fM := HM.out.fa)))
      all_goals clear fM
      rw [← HXV.out]
      refine nxt HM fun w20 M => ?_
      clear HM; have HM := M; clear M
      obtain ⟨A', hA', hAF, hS⟩ := (HM.out.pick (r := judgeR b J) (by with_reducible repeat first | exact ph | apply pt)).step'
      have hk1 := HM.out.keepsTo
      refine (see_any w20 b J x hA' HOK.out.1 (HX.out).e (HX.out).kind (HX.out).e.1 (fun h w2 h2 => check_chk w w2 HT.out (hk1.then h2 fun i hi h => by
        rcases hAF i h with h | h
        · exact h
        · omega) (x).e.text (by have := HXT.out; omega))).mono ?_
      rintro r w11 ⟨rfl, hU⟩
      replace HM := Lib.hid (hS _ _ hU)
      clear hU hA' hAF hS hk1
      clear A'
      have fM := HM.out.fa
      go_wp2_with (first
        | ((with_reducible refine at_list ?_); first
          | ((with_reducible refine at_load 37 _ rfl ?_); refine ldW 37 _ rfl rfl rfl HM.out Tryz.underlying37 rfl infoRJ ?_)
          | ((first
            | ((with_reducible refine at_store 37 _ _ rfl ?_); refine stW 37 _ _ rfl rfl rfl rfl HM.out infoRJ ?_; intro w9 M)
            | ((with_reducible refine at_box 37 _ rfl ?_); refine boW 37 _ rfl rfl rfl HM.out ?_; intro w9 n9 M)
            | ((with_reducible refine at_alloc 37 rfl ?_); refine alW 37 rfl rfl (zeroRJ _) HM.out ?_; intro w9 n9 M)); replace HM := Lib.hid M; clear M; clear fM; have fM := HM.out.fa)))
      all_goals clear fM
      refine (num_any _ _).mono ?_
      rintro r wq ⟨rfl, hwq⟩
      rw [hwq]
      clear hwq wq
      have fM := HM.out.fa
      go_wp2_with (first
        | ((with_reducible refine at_list ?_); first
          | ((with_reducible refine at_load 37 _ rfl ?_); refine ldW 37 _ rfl rfl rfl HM.out Tryz.underlying37 rfl infoRJ ?_)
          | ((first
            | ((with_reducible refine at_store 37 _ _ rfl ?_); refine stW 37 _ _ rfl rfl rfl rfl HM.out infoRJ ?_; intro w9 M)
            | ((with_reducible refine at_box 37 _ rfl ?_); refine boW 37 _ rfl rfl rfl HM.out ?_; intro w9 n9 M)
            | ((with_reducible refine at_alloc 37 rfl ?_); refine alW 37 rfl rfl (zeroRJ _) HM.out ?_; intro w9 n9 M)); replace HM := Lib.hid M; clear M; clear fM; have fM := HM.out.fa)))
      all_goals clear fM
      refine nxt HM fun w12 M => ?_
      clear HM; have HM := M; clear M
      obtain ⟨Ahj, hj⟩ := HM.out.get (r := judgeR b (seeR J x).1) (by with_reducible repeat first | exact ph | apply pt)
      obtain ⟨Ahz, hz⟩ := HM.out.get (r := judgeR bc J) (by with_reducible repeat first | exact ph | apply pt)
      refine (judge_same w12 b bc (seeR J x).1 J hj hz HCA.out HCJ.out).mono ?_
      rintro r w13 ⟨rfl, hE⟩
      replace HM := Lib.hid (HM.out.ext hE)
      clear hE hj hz
      rw [HS1.out]
      have fM := HM.out.fa
      go_wp2_with (first
        | ((with_reducible refine at_list ?_); first
          | ((with_reducible refine at_load 37 _ rfl ?_); refine ldW 37 _ rfl rfl rfl HM.out Tryz.underlying37 rfl infoRJ ?_)
          | ((first
            | ((with_reducible refine at_store 37 _ _ rfl ?_); refine stW 37 _ _ rfl rfl rfl rfl HM.out infoRJ ?_; intro w9 M)
            | ((with_reducible refine at_box 37 _ rfl ?_); refine boW 37 _ rfl rfl rfl HM.out ?_; intro w9 n9 M)
            | ((with_reducible refine at_alloc 37 rfl ?_); refine alW 37 rfl rfl (zeroRJ _) HM.out ?_; intro w9 n9 M)); replace HM := Lib.hid M; clear M; clear fM; have fM := HM.out.fa)))
      all_goals clear fM
      refine nxt HM fun w12 M => ?_
      clear HM; have HM := M; clear M
      obtain ⟨Ahj, hj⟩ := HM.out.get (r := judgeR bc J) (by with_reducible repeat first | exact ph | apply pt)
      obtain ⟨Ahz, hz⟩ := HM.out.get (r := judgeR b (seeR J x).1) (by with_reducible repeat first | exact ph | apply pt)
      refine (judge_same w12 bc b J (seeR J x).1 hj hz HCJ.out HCA.out).mono ?_
      rintro r w13 ⟨rfl, hE⟩
      replace HM := Lib.hid (HM.out.ext hE)
      clear hE hj hz
      rw [HSYM.out, HS1.out]
      have fM := HM.out.fa
      go_wp2_with (first
        | ((with_reducible refine at_list ?_); first
          | ((with_reducible refine at_load 37 _ rfl ?_); refine ldW 37 _ rfl rfl rfl HM.out Tryz.underlying37 rfl infoRJ ?_)
          | ((first
            | ((with_reducible refine at_store 37 _ _ rfl ?_); refine stW 37 _ _ rfl rfl rfl rfl HM.out infoRJ ?_; intro w9 M)
            | ((with_reducible refine at_box 37 _ rfl ?_); refine boW 37 _ rfl rfl rfl HM.out ?_; intro w9 n9 M)
            | ((with_reducible refine at_alloc 37 rfl ?_); refine alW 37 rfl rfl (zeroRJ _) HM.out ?_; intro w9 n9 M)); replace HM := Lib.hid M; clear M; clear fM; have fM := HM.out.fa)))
      all_goals clear fM
      rw [← HYV2.out]
      refine nxt HM fun w16 M => ?_
      clear HM; have HM := M; clear M
      obtain ⟨A', hA', -, hS⟩ := (HM.out.pick (r := refsR [(csa, (seeR J x).1), (cs, J)]) (by with_reducible repeat first | exact ph | apply pt)).step'
      refine (rsee_any w16 J cs y (hA'.1 (cs, J) (by simp)) hA'.2 ⟨HOK.out.1, HOK.out.2.1, by have := HPL.out; omega⟩ (by have := HPL.out; omega) (by have := HYT.out; omega)).mono ?_
      rintro r w17 ⟨csb, rfl, hR', hE⟩
      obtain ⟨-, -, -, -, hlen', hone', -⟩ := hR'.open
      have HWcsb : Wd 31 csb := ⟨hlen', hone'⟩
      replace HM := Lib.hid (hS _ _ (refs_more hA' hR' hE))
      clear hA' hS hR' hE hlen' hone'
      clear A'
      rw [HYV2.out]
      have fM := HM.out.fa
      go_wp2_with (first
        | ((with_reducible refine at_list ?_); first
          | ((with_reducible refine at_load 37 _ rfl ?_); refine ldW 37 _ rfl rfl rfl HM.out Tryz.underlying37 rfl infoRJ ?_)
          | ((first
            | ((with_reducible refine at_store 37 _ _ rfl ?_); refine stW 37 _ _ rfl rfl rfl rfl HM.out infoRJ ?_; intro w9 M)
            | ((with_reducible refine at_box 37 _ rfl ?_); refine boW 37 _ rfl rfl rfl HM.out ?_; intro w9 n9 M)
            | ((with_reducible refine at_alloc 37 rfl ?_); refine alW 37 rfl rfl (zeroRJ _) HM.out ?_; intro w9 n9 M)); replace HM := Lib.hid M; clear M; clear fM; have fM := HM.out.fa)))
      all_goals clear fM
      rename Nat => nb
      refine nxt HM fun w21 M => ?_
      clear HM; have HM := M; clear M
      obtain ⟨Ac, hAc, hAF, hZ, hblk⟩ := (HM.out.pick (r := judgeR bc J) (by with_reducible repeat first | exact ph | apply pt)).step2
      obtain ⟨Aha, ha⟩ := HM.out.get (r := cellsR na 37 csa) (by with_reducible repeat first | exact ph | apply pt)
      obtain ⟨Ahb, hb⟩ := HM.out.get (r := cellsR nb 37 csb) (by with_reducible repeat first | exact ph | apply pt)
      have HBa := Lib.hid ha.2
      have HBb := Lib.hid hb.2
      have HSa := Lib.hid (hblk na _ _ _ (by with_reducible repeat first | exact ph | apply pt))
      have HSb := Lib.hid (hblk nb _ _ _ (by with_reducible repeat first | exact ph | apply pt))
      have hk1 := HM.out.keepsTo
      clear ha hb hblk
      have fM := HM.out.fa
      have hE0 : Keeps (Ac) w21 w21.drew := (Keeps.refl _ _).drew
      refine wp_region_plan [(0, 0), (3, 1), (0, 4), (2, 2), (2, 3), (0, 5), (0, 6), (0, 7), (1, 8), (2, 9), (0, 10), (0, 11), (0, 12), (1, 13), (2, 14), (0, 15), (0, 16), (0, 17), (0, 18), (1, 20), (1, 21), (2, 19)] [8, 13, 20, 21] [2, 3, 9, 14, 19, 22, 23, 24, 25, 26, 27, 28] [22, 23, 24, 25, 26, 27, 28] (ClsK (Ac) w21) (by kernel_rfl) (by kernel_rfl) (plan3 [0, 0, 3, 7, 0, 31, 63, 127, 127, 511, 1023, 2047, 4095, 4095, 16383, 32767, 65535, 131071, 131071, 524287, 131071, 131071, 4194303, 8388607, 16777215, 33554431, 67108863, 134217727, 268435455] (by kernel_rfl) rfl (by kernel_rfl)) rfl rfl (ClsK.of hE0) (fun _ _ _ d _ h => by cases d <;> exact h) ?_; simp only [planL, nL]
      refine pM _ rfl rfl ?_; simp only [nP, nE]
      refine pX (v := ?_) rfl ?_ ?_; rotate_left; (go_simp <;> with_reducible rfl); simp only [nP]
      refine pM _ rfl rfl ?_; simp only [nP, nE]
      refine plan_does rfl (fun K hK => ?_)
      go_wp2_with fail
      skip
      rw [← HYV2.out]
      refine (see_any w21.drew bc J y (JudgeX.ext hAc (Ext.drew0 w21)) HOK.out.1 HY.out.e HY.out.kind HY.out.e.1 (fun h w2 h2 => check_chk w w2 HT.out (hk1.drew.then h2 fun i hi h => by
        rcases hAF i h with h | h
        · exact h
        · omega) y.e.text (by have := HYT.out; omega))).mono ?_
      rintro r w22 ⟨rfl, hU⟩
      have hU' := hU.pre (Ext.drew0 w21)
      have hK22 : Keeps Ac w21 w22 := let ⟨_, _, h, _⟩ := hU'; h
      replace HM := Lib.hid (hZ _ _ hU')
      clear hU hU' hZ
      refine hK _ _ ⟨ClsK.of (by assumption), ?_⟩; clear hK K; try simp only [nP]
      refine plan_does rfl (fun K hK => ?_)
      go_wp2_with fail
      skip
      refine (num_any _ _).mono ?_
      rintro r wq ⟨rfl, hwq⟩
      rw [hwq]
      clear hwq wq
      refine hK _ _ ⟨ClsK.of (by assumption), ?_⟩; clear hK K; try simp only [nP]
      refine pR (v := ?_) rfl (fun W => ?_) ?_; rotate_left; (go_simp <;> with_reducible rfl); simp only [nP]
      refine pM _ rfl rfl ?_; simp only [nP, nE]
      (first | (refine plan_skip rfl ?_; simp only [nP]) | (refine pM _ rfl rfl ?_; simp only [nP, nE]))
      (first | (refine plan_skip rfl ?_; simp only [nP]) | (refine pK (v := .agg csa.toArray) rfl (fun y => elB 37 _ rfl rfl (HBa.out.keeps y.h HSa.out) Tryz.underlying37 rfl infoRJ) ?_; simp only [nP]))
      (first | (refine plan_skip rfl ?_; simp only [nP]) | (refine plan_does rfl (fun K hK => ?_)))
      go_wp2_with fail
      skip
      obtain ⟨Ahj, hj⟩ := HM.out.get (r := judgeR b (seeR J x).1) (by with_reducible repeat first | exact ph | apply pt)
      obtain ⟨Ahr, hr⟩ := HM.out.get (r := refsR [(csb, (seeR J y).1), (csa, (seeR J x).1), (cs, J)]) (by with_reducible repeat first | exact ph | apply pt)
      refine (is_any w22 b (seeR J x).1 csa hj (hr.1 (csa, (seeR J x).1) (by simp)) HFA.out).mono ?_
      rintro r w99 ⟨rfl, hE⟩
      replace HM := Lib.hid (HM.out.ext hE)
      have hK23 := hK22.ext hE
      clear hE hj hr
      refine hK _ _ ⟨ClsK.of (by assumption), ?_⟩; clear hK K; try simp only [nP]
      refine pR (v := ?_) rfl (fun W => ?_) ?_; rotate_left; (go_simp <;> with_reducible rfl); simp only [nP]
      refine pM _ rfl rfl ?_; simp only [nP, nE]
      (first | (refine plan_skip rfl ?_; simp only [nP]) | (refine pM _ rfl rfl ?_; simp only [nP, nE]))
      (first | (refine plan_skip rfl ?_; simp only [nP]) | (refine pK (v := .agg csb.toArray) rfl (fun y => elB 37 _ rfl rfl (HBb.out.keeps y.h HSb.out) Tryz.underlying37 rfl infoRJ) ?_; simp only [nP]))
      (first | (refine plan_skip rfl ?_; simp only [nP]) | (refine plan_does rfl (fun K hK => ?_)))
      go_wp2_with fail
      skip
      obtain ⟨Ahj, hj⟩ := HM.out.get (r := judgeR bc (seeR J y).1) (by with_reducible repeat first | exact ph | apply pt)
      obtain ⟨Ahr, hr⟩ := HM.out.get (r := refsR [(csb, (seeR J y).1), (csa, (seeR J x).1), (cs, J)]) (by with_reducible repeat first | exact ph | apply pt)
      refine (is_any _ bc (seeR J y).1 csb hj (hr.1 (csb, (seeR J y).1) (by simp)) HFB.out).mono ?_
      rintro r w99 ⟨rfl, hE⟩
      replace HM := Lib.hid (HM.out.ext hE)
      have hK24 := hK23.ext hE
      clear hE hj hr
      refine hK _ _ ⟨ClsK.of (by assumption), ?_⟩; clear hK K; try simp only [nP]
      refine pR (v := ?_) rfl (fun W => ?_) ?_; rotate_left; (go_simp <;> with_reducible rfl); simp only [nP]
      refine pM _ rfl rfl ?_; simp only [nP, nE]
      iterate 2 ((first | (refine plan_skip rfl ?_; simp only [nP]) | (refine pM _ rfl rfl ?_; simp only [nP, nE])))
      (first | (refine plan_skip rfl ?_; simp only [nP]) | (refine pK (v := .agg csa.toArray) rfl (fun y => elB 37 _ rfl rfl (HBa.out.keeps y.h HSa.out) Tryz.underlying37 rfl infoRJ) ?_; simp only [nP]))
      (first | (refine plan_skip rfl ?_; simp only [nP]) | (refine pK (v := .agg csb.toArray) rfl (fun y => elB 37 _ rfl rfl (HBb.out.keeps y.h HSb.out) Tryz.underlying37 rfl infoRJ) ?_; simp only [nP]))
      (first | (refine plan_skip rfl ?_; simp only [nP]) | (refine plan_does rfl (fun K hK => ?_)))
      go_wp2_with fail
      skip
      obtain ⟨Ahj, hj⟩ := HM.out.get (r := judgeR b (seeR J x).1) (by with_reducible repeat first | exact ph | apply pt)
      obtain ⟨Ahz, hz⟩ := HM.out.get (r := judgeR bc (seeR J y).1) (by with_reducible repeat first | exact ph | apply pt)
      refine (judge_same _ b bc (seeR J x).1 (seeR J y).1 hj hz HCA.out HCB.out).mono ?_
      rintro r w25 ⟨rfl, hE⟩
      replace HM := Lib.hid (HM.out.ext hE)
      have hK25 := hK24.ext hE
      clear hE hj hz
      obtain ⟨s2, hs2⟩ : ∃ s2, sameJ (seeR J x).1 (seeR J y).1 = s2 := ⟨_, rfl⟩
      have HS2 := Lib.hid hs2
      rw [hs2]
      clear hs2
      refine hK _ _ ⟨ClsK.of (by assumption), ?_⟩; clear hK K; try simp only [nP]
      refine plan_nil ?_; simp only [tailL, List.filterMap_cons, List.filterMap_nil, nL]; change wpList _ _ _ (_ :: _ :: _ :: _ :: _ :: _ :: _ :: []) _ _
      go_wp2_with fail
      skip
      obtain ⟨Ahr, hr⟩ := HM.out.get (r := refsR [(csb, (seeR J y).1), (csa, (seeR J x).1), (cs, J)]) (by with_reducible repeat first | exact ph | apply pt)
      refine (rsame_any _ (seeR J x).1 (seeR J y).1 csa csb (hr.1 (csa, (seeR J x).1) (by simp)) (hr.1 (csb, (seeR J y).1) (by simp)) HCA.out HCB.out).mono ?_
      rintro r w26 ⟨rfl, hE⟩
      replace HM := Lib.hid (HM.out.ext hE)
      have hK26 := hK25.ext hE
      clear hE hr
      rw [HS2.out]
      go_wp2_with fail
      skip
      refine (works_any _).mono ?_
      rintro r w27 ⟨rfl, hE⟩
      replace HM := Lib.hid (HM.out.ext hE)
      have hK27 := hK26.ext hE
      clear hE
      clear fM
      have fM := HM.out.fa
      go_wp2_with fail
      all_goals clear fM
      go_ret
      exact ⟨rfl, HM.out.extTo⟩
theorem copies_walk {A : Nat → Prop} (w : World) (v : Value) (l : List Sn) (x y : Sn) (h : Sns w A v l) (hl : l.length ≤ 9223372036854775807) (hA : ∀ k, A k → k < w.heap.size) (hx : OkS x) (hy : OkS y) (hT : Tabs w) :
    Calls Tryz.prog 4 #[v, x.v, y.v] w fun e w' => e = .returned (.bool true) ∧ Ext w w' := by
  cases hf : fewB l 40 with
  | false => exact copies_few w v l x y h hl hA hx hy hT hf
  | true => cases hf2 : fewB [x, y] 2 with
    | false => exact copies_few2 w v l x y h hl hA hx hy hT hf hf2
    | true => exact copies_in w v l x y h hl hA hx hy hT hf hf2
end Go.Proofs.YthhdgjofagdjeaaGreatDoor
end
section
/- Things seen as arguments, opened. No condition. -/
set_option linter.unusedVariables false
set_option linter.unusedSimpArgs false
set_option maxRecDepth 100000
namespace Go.Proofs.YthhdgjofagdjeaaGreatDoor
open Go.RowKit Go.ChangeShapes Go.WideShapes
theorem cellsI : Tryz.prog.cellsOf 3 = 1 := by kernel_rfl
theorem cellsI64 : Tryz.prog.cellsOf 2 = 1 := by kernel_rfl
theorem cellsS : Tryz.prog.cellsOf 9 = 1 := by kernel_rfl
theorem cellsEK : Tryz.prog.cellsOf 52 = 1 := by kernel_rfl
theorem cellsSK : Tryz.prog.cellsOf 51 = 1 := by kernel_rfl
theorem cellsEn : Tryz.prog.cellsOf 54 = 4 := by kernel_rfl
theorem cellsSn : Tryz.prog.cellsOf 56 = 7 := by kernel_rfl
theorem list4 {cs : List Value} (h : cs.length = 4) : ∃ a b c d, cs = [a, b, c, d] := by
  match cs, h with
  | [a, b, c, d], _ => exact ⟨a, b, c, d, rfl⟩
theorem list7 {cs : List Value} (h : cs.length = 7) : ∃ a b c d e f g, cs = [a, b, c, d, e, f, g] := by
  match cs, h with
  | [a, b, c, d, e, f, g], _ => exact ⟨a, b, c, d, e, f, g, rfl⟩
section
variable {H : Type} {enc : TypeId × Value → H} {w : World}
theorem rd_en : Rd enc Tryz.prog w 54 fun cs (e : En) => cs = e.cells ∧ OkE e := fun fuel cs x h => by
  obtain ⟨hl, hf⟩ := rd_field Tryz.underlying54 h
  rw [cellsEn] at hl
  obtain ⟨c0, c1, c2, c3, rfl⟩ := list4 hl
  obtain ⟨k0, h0, g0⟩ := hf 0 _ 0 1 rfl rfl cellsEK (rd_int Tryz.underlying52)
  obtain ⟨k1, h1, g1⟩ := hf 1 _ 1 1 rfl rfl cellsI (rd_int Tryz.underlying3)
  obtain ⟨k2, h2, g2⟩ := hf 2 _ 2 1 rfl rfl cellsI64 (rd_int Tryz.underlying2)
  obtain ⟨l, h3, g3⟩ := hf 3 _ 3 1 rfl rfl cellsS (rd_string Tryz.underlying9)
  simp at h0 h1 h2 h3
  exact ⟨⟨k0, k1, k2, l⟩, by rw [h0, h1, h2, h3]; rfl, i64_of g0, i64_of g1, i64_of g2, g3⟩
theorem rd_sn : Rd enc Tryz.prog w 56 fun cs (x : Sn) => SnEn cs x := fun fuel cs x h => by
  obtain ⟨hl, hf⟩ := rd_field Tryz.underlying56 h
  rw [cellsSn] at hl
  obtain ⟨c0, c1, c2, c3, c4, c5, c6, rfl⟩ := list7 hl
  obtain ⟨k0, h0, g0⟩ := hf 0 _ 0 1 rfl rfl cellsSK (rd_int Tryz.underlying51)
  obtain ⟨k1, h1, g1⟩ := hf 1 _ 1 1 rfl rfl cellsI (rd_int Tryz.underlying3)
  obtain ⟨k2, h2, g2⟩ := hf 2 _ 2 1 rfl rfl cellsI64 (rd_int Tryz.underlying2)
  obtain ⟨e, h3, g3⟩ := hf 3 _ 3 4 rfl rfl cellsEn rd_en
  simp [En.cells] at h0 h1 h2 h3
  obtain ⟨h3, h4, h5, h6⟩ := h3
  exact ⟨⟨k0, k1, k2, e⟩, by rw [h0, h1, h2, h3, h4, h5, h6]; rfl, i64_of g0, g3⟩
theorem open_sns {v : Value} {d : DataW H} {p : List MemPlace} {b : Nat} (hv : Value.okWide Tryz.prog w .any b 22 v) (h : DataW.Trod enc Tryz.prog w 0 (fun _ => true) true 22 v d p) :
    ∃ l : List Sn, Sns w (Old w) v l ∧ l.length ≤ 9223372036854775807 := by
  obtain ⟨fuel, hf⟩ := h
  obtain ⟨l, v', h1, h2, h3⟩ := rd_slice 7 Tryz.underlying22 cellsSn (by decide) rd_sn fuel _ _ hf
  rw [ok_slice Tryz.underlying22 hv] at h1
  obtain rfl : v = v' := by simpa using h1
  exact ⟨l, h2, h3⟩
theorem open_sn {v : Value} {d : DataW H} {p : List MemPlace} {b : Nat} (hv : Value.okWide Tryz.prog w .any b 56 v) (h : DataW.Trod enc Tryz.prog w 0 (fun _ => true) true 56 v d p) :
    ∃ x : Sn, v = x.v ∧ OkS x := by
  obtain ⟨fuel, hf⟩ := h
  obtain ⟨x, h1, h2⟩ := rd_sn fuel _ _ hf
  obtain ⟨cs, rfl, -⟩ := okWide_struct Tryz.underlying56 hv
  refine ⟨x, ?_, h2⟩
  have h5 : cs.toList = x.cells := h1
  obtain ⟨l⟩ := cs
  simp only at h5
  rw [h5]
  rfl
end
end Go.Proofs.YthhdgjofagdjeaaGreatDoor
end
