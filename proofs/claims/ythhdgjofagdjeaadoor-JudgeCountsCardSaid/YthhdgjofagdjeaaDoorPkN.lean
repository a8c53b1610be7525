/- Texts ZC, ZD, ZDA, one behind the other. Conditions: as each says. -/
import Derived.Test.YthhdgjofagdjeaaDoorPkM
import Derived.BigFrameIn
import Derived.BigGuardIn
section
/- Several slices of entries, each owned, as one thing; one of them turned. No program's function is named here. -/
set_option linter.unusedVariables false
set_option linter.unusedSimpArgs false
set_option maxHeartbeats 1000000
set_option maxRecDepth 10000
namespace Go.Proofs.YthhdgjofagdjeaaDoor
open Go.RowKit
theorem Pick.unsep {w : World} : ∀ {L L' : List Res} {r : Res} {F : Nat → Prop}, Pick L r L' → SepL (r :: L') F w → SepL L F w
  | _, _, _, _, .here, h => h
  | _, _, _, _, .there p, h => by
    obtain ⟨A, B, h1, h2, h3, h4⟩ := SepL.swap h
    exact ⟨A, B, h1, p.unsep h2, h3, h4⟩
theorem zip_pick {α β : Type} (f : α → β → Res) : ∀ (vs : List α) (ls : List β) (p : Nat) (h1 : p < vs.length) (h2 : p < ls.length), ∃ L', Pick (List.zipWith f vs ls) (f vs[p] ls[p]) L' ∧ ∀ v' l', Pick (List.zipWith f (vs.set p v') (ls.set p l')) (f v' l') L'
  | [], _, _, h1, _ => by simp at h1
  | _ :: _, [], _, _, h2 => by simp at h2
  | v :: vs, l :: ls, 0, _, _ => ⟨List.zipWith f vs ls, .here, fun _ _ => .here⟩
  | v :: vs, l :: ls, p + 1, h1, h2 => by
    obtain ⟨L', a, b⟩ := zip_pick f vs ls p (by simpa using h1) (by simpa using h2)
    exact ⟨f v l :: L', .there a, fun v' l' => .there (b v' l')⟩
theorem Mem.callE {P : Program} {f : FuncId} {args : Array Value} {K : Ending → World → Prop} {F : Nat → Prop} {w0 w' wr : World} {L : List Res} (h : Mem F w0 w' L) (h2 : Ext wr w') (k : ∀ w, Mem F w0 w L → Ext wr w → Calls P f args w K) : Calls P f args w' K := k _ h h2
theorem atR_at {n : Nat} {f : Nat → Int} {k : Nat} {o : Int} (h : k < n) : atR n f (k : Int) o = f k := by
  unfold atR
  rw [if_pos (by omega)]
  rfl
theorem Mem.newU' {F : Nat → Prop} {w0 w w' : World} {L : List Res} {r : Res} (h : Mem F w0 w L) (u : Upd NoB w w' r) : Mem F w0 w' (r :: L) := by
  obtain ⟨F', h1, h2, h3⟩ := u
  exact h.new (G := F') h2 h1 fun k hk => (h3 k hk).resolve_left (noB _)
/-- what a range leaves: its variable's block, its mark, what was gathered -/
theorem upd_mark3 {A0 : Nat → Prop} {w w' : World} {nb : Nat} {t : TypeId} {v : Value} {l : List En} (hA : ∀ k, A0 k ↔ k = nb) (hb : Box w' nb t [v]) (hm : Mark w' w.heap.size) (hr : RowAt enE w' (w.heap.size + 2) v l) (hk : Keeps (OneB nb) w w') (hn : nb < w.heap.size) :
    Upd A0 w w' (sepR [cellsR nb t [v], markR w.heap.size, rowR enE v l]) :=
  ⟨fun k => k = nb ∨ k = w.heap.size ∨ Own v k, ⟨fun k => k = nb, fun k => k = w.heap.size ∨ Own v k, ⟨fun _ => Iff.rfl, hb⟩, ⟨fun k => k = w.heap.size, Own v, ⟨fun _ => Iff.rfl, hm⟩, ⟨Own v, fun _ => False, hr.res, fun _ h => h, fun _ _ h => h, fun k => ⟨.inl, fun h => h.resolve_right id⟩⟩, fun k h1 h2 => by have := (Win.block hr k h2).1; omega, fun k => Iff.rfl⟩, fun k h1 h2 => by
    rcases h2 with h2 | h2
    · omega
    · have := (Win.block hr k h2).1; omega, fun k => Iff.rfl⟩,
    hk.mono (fun i _ h => (hA i).2 h), fun k hk => by
      rcases hk with hk | hk | hk
      · exact .inl ((hA k).2 hk)
      · exact .inr (by omega)
      · exact .inr (by have := (Win.block hr k hk).1; omega)⟩
theorem Mem.openSep3 {F : Nat → Prop} {w0 w : World} {L : List Res} {r1 r2 r3 : Res} (h : Mem F w0 w (sepR [r1, r2, r3] :: L)) : Mem F w0 w (r1 :: r2 :: r3 :: L) := h.openSep
/-- slices of entries -/
def rowsR (vs : List Value) (ls : List (List En)) : Res := sepR (List.zipWith (rowR enE) vs ls)
section
variable {F : Nat → Prop} {w0 w : World} {L L1 : List Res} {vs : List Value} {ls : List (List En)}
theorem Mem.rows (h : Mem F w0 w L1) (q : Pick L1 (rowsR vs ls) L) (p : Nat) (h1 : p < vs.length) (h2 : p < ls.length) : ∃ A, (rowR enE vs[p] ls[p]).p A w ∧ ∀ (v' : Value) (l' : List En) (w' : World), Upd A w w' (rowR enE v' l') → Mem F w0 w' (rowsR (vs.set p v') (ls.set p l') :: L) := by
  obtain ⟨L', a, b⟩ := zip_pick (rowR enE) vs ls p h1 h2
  have h3 : Mem F w0 w ((rowR enE vs[p] ls[p] :: L') ++ L) := (h.pick q).open fun A hA => ⟨A, a.sep hA, fun _ h => h⟩
  obtain ⟨A, hA, hS⟩ := Mem.step h3
  refine ⟨A, hA, fun v' l' w' hU => ?_⟩
  have h4 : Mem F w0 w' ((rowR enE v' l' :: L') ++ L) := hS _ _ hU
  exact h4.close fun A hA => (b v' l').unsep hA
theorem Mem.rowsNil (h : Mem F w0 w L1) (q : Pick L1 (rowsR vs ls) L) (p : Nat) (h1 : p < vs.length) (h2 : p < ls.length) : Mem F w0 w (rowsR (vs.set p (.slice none 0 0)) (ls.set p []) :: L) := by
  obtain ⟨A, hA, hS⟩ := h.rows q p h1 h2
  exact hS _ _ _ ⟨fun _ => False, ⟨fun k => ⟨fun h => h.elim, fun h => by cases h⟩, Win.nil w 0 4⟩, Keeps.refl _ _, fun k h => h.elim⟩
theorem Mem.rowsAt (h : Mem F w0 w L1) (q : Pick L1 (rowsR vs ls) L) (p : Nat) (h1 : p < vs.length) (h2 : p < ls.length) : RowAt enE w 0 vs[p] ls[p] := by
  obtain ⟨A, hA, -⟩ := h.rows q p h1 h2
  exact hA.2
theorem Mem.rowsOff (h : Mem F w0 w L1) (q : Pick L1 (rowsR vs ls) L) (p : Nat) (h1 : p < vs.length) (h2 : p < ls.length) {b : Nat} {t : TypeId} {cs : List Value} {L2 : List Res} (r : Pick L (cellsR b t cs) L2) : ¬ Own vs[p] b := by
  obtain ⟨a, G, ⟨A, B, hA, hB, hd, -⟩, -⟩ := h.pick q
  obtain ⟨C, D, g1, -, -, g4⟩ := r.sep hB
  obtain ⟨L', x, -⟩ := zip_pick (rowR enE) vs ls p h1 h2
  obtain ⟨C', D', k1, -, -, k4⟩ := x.sep hA
  exact fun ho => hd b ((k4 b).2 (.inl ((k1.1 b).2 ho))) ((g4 b).2 (.inl ((g1.1 b).2 rfl)))
theorem rows_new (n : Nat) (h : Mem F w0 w L) : Mem F w0 w (rowsR (List.replicate n (.slice none 0 0)) (List.replicate n []) :: L) := by
  refine h.new (G := fun _ => False) (Keeps.refl _ _) ?_ (fun k h => h.elim)
  show SepL _ _ _
  induction n with
  | zero => exact fun k h => h
  | succ n ih =>
    rw [List.replicate_succ, List.replicate_succ, List.zipWith_cons_cons]
    exact ⟨fun _ => False, fun _ => False, ⟨fun k => ⟨fun h => h.elim, fun h => by cases h⟩, Win.nil w 0 4⟩, ih, fun _ h => h.elim, fun k => ⟨fun h => h.elim, fun h => h.elim id id⟩⟩
/-- an append at one of them -/
theorem Mem.rowsAdd {P : Program} (t tx ty e : TypeId) (i : TypeInfo) (z : Value) (bytes : Nat) (ht : P.underlying t = some (.slice e)) (htx : P.underlying tx = some (.slice e)) (hi : P.info? e = some i) (hz : i.zero = some z)
    (hsize : i.size = 4) (hby : i.bytes = bytes) (hzs : z.cells.size = 4) (h : Mem F w0 w L1) (q : Pick L1 (rowsR vs ls) L) (p : Nat) (h1 : p < vs.length) (h2 : p < ls.length) (b c : Nat) (x : En) (hb : ∀ o, w.cell? ⟨b, o, none⟩ = (x.cells)[o]?)
    (h63 : ls[p].length + 1 ≤ maxLen) (hbytes : (ls[p].length + 1) * bytes ≤ 140737488355328) :
    ∃ pa pc w', (Builtin.append_ #[t, tx] ty #[vs[p], .slice (some ⟨b, 0, none⟩) 1 c]).run P w = .ok (.slice pa (ls[p].length + 1) pc) w' ∧ Mem F w0 w' (rowsR (vs.set p (.slice pa (ls[p].length + 1) pc)) (ls.set p (ls[p] ++ [x])) :: L) ∧ Keeps (Own vs[p]) w w' := by
  obtain ⟨A, hA, hS⟩ := h.rows q p h1 h2
  have hsrc := one_src (E := enE) (x := x) (c := c) hb
  obtain ⟨v', w', hr, hw', hk, ho⟩ := run_append_win w 0 t tx ty e i z 4 bytes ht hi hz hsize hby hzs vs[p] ls[p].length (enE.row ls[p]) hA.2 (.slice (some ⟨b, 0, none⟩) 1 c) 1 (enE.row [x]) (hsrc.toSrc htx (enE.row_len [x]) (enE.row_one [x])) h63 hbytes (Nat.zero_le _)
  have hk' : Keeps (Own vs[p]) w w' := hk
  obtain ⟨pa, pc, rfl⟩ := Win.len hw'
  refine ⟨pa, pc, w', hr, hS _ _ w' ⟨Own _, ⟨fun k => Iff.rfl, ?_⟩, hk'.mono fun k _ h => (hA.1 k).2 h, fun k hk => ?_⟩, hk'⟩
  · show Win w' 0 4 _ (ls[p] ++ [x]).length (enE.row (ls[p] ++ [x]))
    rw [enE.row_append, List.length_append]
    exact hw'
  · rcases ho with h1 | h1
    · exact .inl ((hA.1 k).2 (by rw [← h1]; exact hk))
    · refine .inr ?_
      have hk : (Value.slice pa (ls[p].length + 1) pc).ownBlock = some k := hk
      rw [h1] at hk
      have := Option.some.inj hk; omega
end
end Go.Proofs.YthhdgjofagdjeaaDoor
end
section
/- The walk of JudgeCounts. Conditions: its argument lies as 'Sns' says; unicode/utf8's two tables read as their initialisers lay them. -/
set_option linter.unusedVariables false
set_option linter.unusedSimpArgs false
set_option maxHeartbeats 20000000
set_option maxRecDepth 100000
namespace Go.Proofs.YthhdgjofagdjeaaDoor
open Go.RowKit Go.Shelf
attribute [local go_sem] Oper.semAt_some
theorem counts_few {A : Nat → Prop} (w : World) (v : Value) (l : List Sn) (h : Sns w A v l) (hl : l.length ≤ 9223372036854775807) (hA : ∀ k, A k → k < w.heap.size) (hT : Tabs w) (hf : fewB l 60 = false) :
    Calls Tryd.prog 5 #[v] w fun e w' => e = .returned (.bool true) ∧ Ext w w' := by
  have HV := Lib.hid h
  have HL := Lib.hid hl
  have HA := Lib.hid hA
  have HT := Lib.hid hT
  have HM := Lib.hid (Mem.start0 w)
  have HF := Lib.hid hf
  clear h hl hA hT hf
  refine (callsIn_wide (n := 9)).1 (callsIn_of_wp_marks Tryd.func5 rfl trivial ?_ rfl)
  simp only [Tryd.ntmps5, List.size_toArray, List.length_cons, List.length_nil, Nat.reduceAdd, Nat.reduceSub, Array.replicate_succ, Array.replicate_zero, List.push_toArray, List.append_toArray, List.nil_append, List.cons_append]
  refine wpIn_wide.2 ?_
  have fM := HM.out.fa
  go_wp2_with fail
  all_goals clear fM
  refine nxt HM fun w1 M => ?_
  clear HM; have HM := M; clear M
  refine (few_any w1 v l 60 (HV.out.ext HM.out.extTo) HL.out (fun k hk => Nat.lt_of_lt_of_le (HA.out k hk) HM.out.extTo.size)).mono ?_
  rintro r wq ⟨rfl, hwq⟩
  rw [hwq, HF.out]
  clear hwq wq
  have fM := HM.out.fa
  go_wp2_with fail
  all_goals clear fM
  refine nxt HM fun w2 M => ?_
  clear HM; have HM := M; clear M
  refine (works_any _).mono ?_
  rintro r w3 ⟨rfl, hE⟩
  replace HM := Lib.hid (HM.out.ext hE)
  clear hE
  have fM := HM.out.fa
  go_wp2_with fail
  all_goals clear fM
  refine nxt HM fun w4 M => ?_
  clear HM; have HM := M; clear M
  refine leaves_marks [] _ (by simp) (by simp) ?_
  intro w' hk
  have hE' : Ext w4 w' := hk.mono fun k _ h => by simp at h
  exact ⟨.bool true, by simp [results, Tryd.results5], rfl, HM.out.extTo.ext hE'⟩
theorem Mem.addRows {F : Nat → Prop} {w0 w : World} {L L1 : List Res} {vs : List Value} {ls : List (List En)} (h : Mem F w0 w L1) (q : Pick L1 (rowsR vs ls) L) (ty : TypeId) (p : Nat) (h1 : p < vs.length) (h2 : p < ls.length) (b c : Nat) (x : En) (hb : ∀ o, w.cell? ⟨b, o, none⟩ = (x.cells)[o]?) (hl : ls[p].length ≤ 4096) :
    ∃ pa pc w', (Builtin.append_ #[47, 47] ty #[vs[p], .slice (some ⟨b, 0, none⟩) 1 c]).run Tryd.prog w = .ok (.slice pa (ls[p].length + 1) pc) w' ∧ Mem F w0 w' (rowsR (vs.set p (.slice pa (ls[p].length + 1) pc)) (ls.set p (ls[p] ++ [x])) :: L) ∧ Keeps (Own vs[p]) w w' := by
  obtain ⟨i0, hi, hz0, hz1, hz2⟩ := info_parts infoEn
  exact Mem.rowsAdd 47 47 ty 35 i0 _ 40 Tryd.underlying47 Tryd.underlying47 hi hz0 hz1 hz2 rfl h q p h1 h2 b c x hb (by unfold maxLen; omega) (by omega)
/-- what the loop over the things keeps -/
structure Kept (J : JA) (s : CS) (tv hv : List Value) : Prop where
  inv : Inv J s
  tv3 : tv.length = 3
  hv4 : hv.length = 4
theorem W_len (J : JA) : (W J).length = J.T.l.length := by unfold W; rw [List.length_map]
theorem W_take (J : JA) (k : Nat) (hk : k < J.T.l.length) : (W J).take (k + 1) = (W J).take k ++ [(J.T.l[k]).e] := by
  unfold W
  rw [← List.map_take, ← List.map_take, List.take_succ_eq_append_getElem hk, List.map_append]
  rfl
/-- the whole, as far as it is gathered: in block nb, of what was made since a loop began -/
def WholeAt (V w0 : World) (nb : Nat) (xs : List En) : Prop := ∃ v, Box V nb 47 [v] ∧ RowAt enE V (w0.heap.size + 2) v xs
theorem WholeAt.keeps {V V' w0 : World} {nb : Nat} {xs : List En} (h : WholeAt V w0 nb xs) (hn : nb < w0.heap.size) (hk : Keeps (OneB (w0.heap.size + 1)) V V') : WholeAt V' w0 nb xs := by
  obtain ⟨v, h1, h2⟩ := h
  refine ⟨v, h1.keeps hk (by unfold OneB; omega), h2.keeps hk fun k hk h => ?_⟩
  have := (Win.block h2 k hk).1
  have h9 : k = w0.heap.size + 1 := h
  omega
/-- what is left to show of 'G', and that it is enough -/
structure Cut2 (G : Prop) where
  (P0 P1 : Prop)
  go : P0 → P1 → G
noncomputable def counts_cut {A : Nat → Prop} (w : World) (v : Value) (l : List Sn) (HV : Hid (Sns w A v l)) (HL : Hid (l.length ≤ 9223372036854775807)) (HA : Hid (∀ k, A k → k < w.heap.size)) (HT : Hid (Tabs w)) (HF : Hid (fewB l 60 = true)) :
    Cut2 (Calls Tryd.prog 5 #[v] w fun e w' => e = .returned (.bool true) ∧ Ext w w') := by
  apply Cut2.mk
  case go =>
    intro p0 p1
    have HM := Lib.hid (Mem.start0 w)
    refine (callsIn_wide (n := 9)).1 (callsIn_of_wp_marks Tryd.func5 rfl trivial ?_ rfl)
    simp only [Tryd.ntmps5, List.size_toArray, List.length_cons, List.length_nil, Nat.reduceAdd, Nat.reduceSub, Array.replicate_succ, Array.replicate_zero, List.push_toArray, List.append_toArray, List.nil_append, List.cons_append]
    refine wpIn_wide.2 ?_
    have fM := HM.out.fa
    go_wp2_with fail
    all_goals clear fM
    refine nxt HM fun w1 M => ?_
    clear HM; have HM := M; clear M
    refine (few_any w1 v l 60 (HV.out.ext HM.out.extTo) HL.out (fun k hk => Nat.lt_of_lt_of_le (HA.out k hk) HM.out.extTo.size)).mono ?_
    rintro r wq ⟨rfl, hwq⟩
    rw [hwq, HF.out]
    clear hwq wq
    have fM := HM.out.fa
    go_wp2_with fail
    all_goals clear fM
    refine nxt HM fun w2 M => ?_
    clear HM; have HM := M; clear M
    refine (judge_new_ok w2 3 4 (by unfold RightC; decide) (by decide) (by decide)).mono ?_
    rintro r w3 ⟨b, F, rfl, hJ, hE, hN⟩
    replace HM := Lib.hid (HM.out.new (r := judgeR b (J0 3 4)) hE hJ hN)
    clear hJ hE hN
    have fM := HM.out.fa
    go_wp2_with fail
    all_goals clear fM
    refine (num_any _ _).mono ?_
    rintro r wq ⟨rfl, hwq⟩
    rw [hwq]
    clear hwq wq
    have fM := HM.out.fa
    go_wp2_with fail
    all_goals clear fM
    refine nxt HM fun w4 M => ?_
    clear HM; have HM := M; clear M
    obtain ⟨nt, hnt⟩ : ∃ n, w3.heap.size = n := ⟨_, rfl⟩
    rw [hnt] at HM ⊢
    clear hnt
    have HM1 : Mem NoB w w4 (rowsR [.slice none 0 0, .slice none 0 0, .slice none 0 0] [[], [], []] :: _) := rows_new 3 HM.out
    have HM2 : Mem NoB w w4 (rowsR [.slice none 0 0, .slice none 0 0, .slice none 0 0, .slice none 0 0] [[], [], [], []] :: _) := rows_new 4 HM1
    replace HM := Lib.hid HM2
    clear HM1 HM2
    go_loopw [8] (fun i wr => ∃ (k : Nat) (s : CS) (tv hv : List Value), k ≤ l.length ∧ i = .int .i64 k ∧ Hid (Kept (sees (J0 3 4) (l.take k)) s tv hv) ∧ Hid (Mem NoB w wr [judgeR b (sees (J0 3 4) (l.take k)), cellsR nt 60 tv, rowsR tv s.tl, cellsR (nt + 1) 61 hv, rowsR hv s.hl, cellsR (nt + 1 + 1) 62 (s.fr.map iV)])) (fun i _ => l.length - (intOf i).toNat)
    case atStart =>
      refine ⟨0, ⟨[[], [], []], [[], [], [], []], [0, 0, 0, 0]⟩, [.slice none 0 0, .slice none 0 0, .slice none 0 0], [.slice none 0 0, .slice none 0 0, .slice none 0 0, .slice none 0 0], Nat.zero_le _, rfl, Lib.hid ⟨inv_0, rfl, rfl⟩, Lib.hid ?_⟩
      rw [show sees (J0 3 4) (l.take 0) = J0 3 4 from rfl]
      show Mem NoB w _ [judgeR b (J0 3 4), cellsR nt 60 [.slice none 0 0, .slice none 0 0, .slice none 0 0], rowsR [.slice none 0 0, .slice none 0 0, .slice none 0 0] [[], [], []], cellsR (nt + 1) 61 [.slice none 0 0, .slice none 0 0, .slice none 0 0, .slice none 0 0], rowsR [.slice none 0 0, .slice none 0 0, .slice none 0 0, .slice none 0 0] [[], [], [], []], cellsR (nt + 1 + 1) 62 [.int .i64 0, .int .i64 0, .int .i64 0, .int .i64 0]]
      exact Mem.sub HM.out (by repeat first | exact Sub.nil | refine Sub.cons (by with_reducible repeat first | exact ph | apply pt) ?_)
    case round =>
      clear HM
      obtain ⟨k, s, tv, hv, hk, rfl, HKP, HM⟩ := hrel
      obtain ⟨hfx, hfl⟩ := fewB_text HF.out
      by_cases hlt : k < l.length
      · rename_i Q' K ak
        clear hfx hfl
        revert Q' w1 w2 w3 b F K ak w4 nt wr u2 u9 u10 u32 u33 u34 u35 u36 u37 u38 u39 u40 u41 u42 u43 u44 u45 u46 u47 u48 u49 u50 u51 u52 u53 u54 u55 u56 u57 u58 u59 u60 u61 u62 u63 u64 u65 u66 u67 u68 u69 u70 u71 u72 u73 u74 u75 u76 u77 u78 u79 u80 u81 u82 u83 u84 u85 u86 u87 u88 u89 u90 u91 u92 u93 u94 u95 u96 u97 u98 u99 u100 u101 u102 u103 u104 u105 u106 u107 u108 u109 u110 u111 u112 u113 u114 u115 u116 u117 u118 u119 u120 u121 u122 u123 u124 u125 u126 u127 u128 u129 u130 u131 u132 k s tv hv hk HKP HM hlt
        exact p0
      · rename_i Q' K ak
        clear hfx hfl
        revert Q' w1 w2 w3 b F K ak w4 nt wr u2 u9 u10 u32 u33 u34 u35 u36 u37 u38 u39 u40 u41 u42 u43 u44 u45 u46 u47 u48 u49 u50 u51 u52 u53 u54 u55 u56 u57 u58 u59 u60 u61 u62 u63 u64 u65 u66 u67 u68 u69 u70 u71 u72 u73 u74 u75 u76 u77 u78 u79 u80 u81 u82 u83 u84 u85 u86 u87 u88 u89 u90 u91 u92 u93 u94 u95 u96 u97 u98 u99 u100 u101 u102 u103 u104 u105 u106 u107 u108 u109 u110 u111 u112 u113 u114 u115 u116 u117 u118 u119 u120 u121 u122 u123 u124 u125 u126 u127 u128 u129 u130 u131 u132 k s tv hv hk HKP HM hlt
        exact p1
end Go.Proofs.YthhdgjofagdjeaaDoor
end
section
/- An arm of the walk of JudgeCounts. Conditions: its argument lies as 'Sns' says; unicode/utf8's two tables read as their initialisers lay them. -/
set_option linter.unusedVariables false
set_option linter.unusedSimpArgs false
set_option maxHeartbeats 20000000
set_option maxRecDepth 100000
namespace Go.Proofs.YthhdgjofagdjeaaDoor
open Go.RowKit Go.Shelf
attribute [local go_sem] Oper.semAt_some
theorem counts_arm0 {A : Nat → Prop} (w : World) (v : Value) (l : List Sn) (HV : Hid (Sns w A v l)) (HL : Hid (l.length ≤ 9223372036854775807)) (HA : Hid (∀ k, A k → k < w.heap.size)) (HT : Hid (Tabs w)) (HF : Hid (fewB l 60 = true)) : (counts_cut w v l HV HL HA HT HF).P0 := by
  delta counts_cut
  intro w1 w2 w3 b F K ak w4 nt wr u2 u9 u10 u32 u33 u34 u35 u36 u37 u38 u39 u40 u41 u42 u43 u44 u45 u46 u47 u48 u49 u50 u51 u52 u53 u54 u55 u56 u57 u58 u59 u60 u61 u62 u63 u64 u65 u66 u67 u68 u69 u70 u71 u72 u73 u74 u75 u76 u77 u78 u79 u80 u81 u82 u83 u84 u85 u86 u87 u88 u89 u90 u91 u92 u93 u94 u95 u96 u97 u98 u99 u100 u101 u102 u103 u104 u105 u106 u107 u108 u109 u110 u111 u112 u113 u114 u115 u116 u117 u118 u119 u120 u121 u122 u123 u124 u125 u126 u127 u128 u129 u130 u131 u132 k s tv hv hk HKP HM hlt
  obtain ⟨hfx, hfl⟩ := fewB_text HF.out
  have hok := sees_ok (l.take k) (J0 3 4) (OkJ.new (by unfold RightC; decide) (by decide)) T0_ok
  have hsn : sees (J0 3 4) (l.take (k + 1)) = (seeR (sees (J0 3 4) (l.take k)) l[k]).1 := by rw [List.take_succ_eq_append_getElem hlt, sees_snoc]
  obtain ⟨J, hJ⟩ : ∃ J, sees (J0 3 4) (l.take k) = J := ⟨_, rfl⟩
  rw [hJ] at hok hsn HM HKP
  obtain ⟨a, c, rfl⟩ := HV.out.len
  obtain ⟨g, o, rfl, -⟩ := (HV.out.ext HM.out.extTo).at k hlt
  have hox := HV.out.ok _ (List.getElem_mem hlt)
  have hxt := hfx _ (List.getElem_mem hlt)
  obtain ⟨z, hz⟩ : ∃ z, l[k] = z := ⟨_, rfl⟩
  rw [hz] at hsn hox hxt
  have HZE := Lib.hid hz
  obtain ⟨g2, o2, hgo, hg, -, hx⟩ := (HV.out.ext HM.out.extTo).at k hlt
  cases hgo
  rw [HZE.out] at hx
  have hgl : g < wr.heap.size := Nat.lt_of_lt_of_le (HA.out g hg) HM.out.extTo.size
  have d0 : wr.cell? ⟨g, o + k * 7, none⟩ = some (.int .i64 z.kind) := hx 0 (by decide)
  have d1 : wr.cell? ⟨g, o + k * 7 + 1, none⟩ = some (.int .i64 z.who) := hx 1 (by decide)
  have d2 : wr.cell? ⟨g, o + k * 7 + 2, none⟩ = some (.int .i64 z.index) := hx 2 (by decide)
  have d3 : wr.cell? ⟨g, o + k * 7 + 3, none⟩ = some (.int .i64 z.e.kind) := hx 3 (by decide)
  have d4 : wr.cell? ⟨g, o + k * 7 + 4, none⟩ = some (.int .i64 z.e.member) := hx 4 (by decide)
  have d5 : wr.cell? ⟨g, o + k * 7 + 5, none⟩ = some (.int .i64 z.e.number) := hx 5 (by decide)
  have d6 : wr.cell? ⟨g, o + k * 7 + 6, none⟩ = some (.string (bs z.e.text)) := hx 6 (by decide)
  clear hx hg
  have hiv := inv_step J z s HKP.out.inv hok.1 hok.2.1 hox.e.1 (by omega)
  have HIV := Lib.hid hiv
  have g1 : (k : Int) < (l.length : Int) := by omega
  have g2 : ¬ (k : Int) < 0 := by omega
  have g3 : (k : Int) < 60 := by omega
  have HOK := Lib.hid hok
  have HSN := Lib.hid hsn
  have HOX := Lib.hid hox
  have HXT := Lib.hid hxt
  have HZV := Lib.hid (show z.v = .agg #[.int .i64 z.kind, .int .i64 z.who, .int .i64 z.index, .int .i64 z.e.kind, .int .i64 z.e.member, .int .i64 z.e.number, .string (bs z.e.text)] from rfl)
  clear hok hsn hox hxt hJ hz hfx hfl hiv
  have fM := HM.out.fa
  go_wp2_with fail
  all_goals clear fM
  clear d0 d1 d2 d3 d4 d5 d6
  rw [← HZV.out]
  refine nxt HM fun w10 M => ?_
  clear HM; have HM := M; clear M
  obtain ⟨nx, hnx⟩ : ∃ n, wr.heap.size = n := ⟨_, rfl⟩
  rw [hnx] at HM ⊢
  clear hnx
  obtain ⟨A', hA', hAF, hS⟩ := (HM.out.pick (r := judgeR b J) (by with_reducible repeat first | exact ph | apply pt)).step'
  have hk1 := HM.out.keepsTo
  refine (see_any w10 b J z hA' HOK.out.1 (HOX.out).e (HOX.out).kind (HOX.out).e.1 (fun h w2 h2 => check_chk w w2 HT.out (hk1.then h2 fun i hi h => by
    rcases hAF i h with h | h
    · exact h
    · omega) (z).e.text (by have := HXT.out; omega))).mono ?_
  rintro r w11 ⟨rfl, hU⟩
  replace HM := Lib.hid (hS _ _ hU)
  clear hU hA' hAF hS hk1
  clear A'
  have fM := HM.out.fa
  go_wp2_with fail
  all_goals clear fM
  refine (num_any _ _).mono ?_
  rintro r wq ⟨rfl, hwq⟩
  rw [hwq]
  clear hwq wq
  by_cases h0 : (seeR J z).2 = 0
  case neg =>
    have h0' : ((seeR J z).2 != 0) = true := by simpa using h0
    have h0'' : ((seeR J z).2 == 0) = false := by simpa using h0
    have HC := Lib.hid (show cStep J z s = s by unfold cStep; rw [if_neg h0])
    clear h0
    have fM := HM.out.fa
    go_wp2_with fail
    all_goals clear fM
    go_roundw
    case rel =>
      refine ⟨k + 1, s, tv, hv, by omega, by go_num, Lib.hid ⟨?_, HKP.out.tv3, HKP.out.hv4⟩, Lib.hid ?_⟩
      · have h9 := HIV.out
        rw [HC.out] at h9
        rw [HSN.out]; exact h9
      · rw [HSN.out]
        exact Mem.sub HM.out (by repeat first | exact Sub.nil | refine Sub.cons (by with_reducible repeat first | exact ph | apply pt) ?_)
    case measure => simp [intOf]; omega
  case pos =>
    obtain ⟨hm, -, -⟩ := see_zero h0
    obtain ⟨w0, -, wp, wm, wi, wen, wk⟩ := may_who hm
    obtain ⟨p, hp⟩ : ∃ p : Nat, z.who = p := ⟨z.who.toNat, by omega⟩
    have HP := Lib.hid hp
    have hn3 := HKP.out.inv.n3
    have hm4 := HKP.out.inv.m4
    obtain ⟨J2, hJ2⟩ : ∃ J2, (seeR J z).1 = J2 := ⟨_, rfl⟩
    rw [hJ2] at HM HIV HSN
    rw [h0]
    have H0 := Lib.hid h0
    rw [hp] at wp wm HM
    rw [hn3] at wp
    rw [hm4] at wm
    clear h0 hm w0 hp hn3 hm4 hJ2 wi wen
    obtain ⟨q1, q2, q3⟩ : tv.length = 3 ∧ hv.length = 4 ∧ s.tl.length = 3 := ⟨HKP.out.tv3, HKP.out.hv4, HKP.out.inv.tl3⟩
    have q4 := HKP.out.inv.hl4
    have q5 := HKP.out.inv.fr4
    rcases wk with hk | hk | hk | hk | hk | hk
    · -- put
      have hp4 : p < 4 := by have := wm (.inl hk); omega
      rw [hk] at HM
      have HC := Lib.hid (show cStep J z s = s by unfold cStep; rw [if_pos H0.out, if_neg (by rw [hk]; decide), if_neg (by rw [hk]; decide), if_neg (by rw [hk]; decide), if_neg (by rw [hk]; decide), if_neg (by rw [hk]; decide)])
      have g5 : ¬ (p : Int) < 0 := by omega
      have g6 : ¬ (3 : Int) < (p : Int) := by omega
      clear wp wm hk
      have fM := HM.out.fa
      go_wp2_with fail
      all_goals clear fM
      go_roundw
      case rel =>
        refine ⟨k + 1, s, tv, hv, by omega, by go_num, Lib.hid ⟨?_, by first | exact q1 | (rw [List.length_set]; exact q1), by first | exact q2 | (rw [List.length_set]; exact q2)⟩, Lib.hid ?_⟩
        · rw [HSN.out, ← HC.out]; exact HIV.out
        · rw [HSN.out]
          apply Mem.mem
          · skip
            exact HM.out.to
          intro w8 M
          skip
          exact Mem.sub M (by repeat first | exact Sub.nil | refine Sub.cons (by with_reducible repeat first | exact ph | apply pt) ?_)
      case measure => simp [intOf]; omega
    · -- line
      have hp3 : p < 3 := by have := (wp (.inl hk)).1; omega
      rw [hk] at HM
      have e9 : s.tl.getD p [] = s.tl[p]'(by omega) := by rw [List.getD_eq_getElem?_getD, List.getElem?_eq_getElem (by omega)]; rfl
      have HC := Lib.hid (show cStep J z s = { s with tl := s.tl.set p (s.tl[p]'(by omega) ++ [z.e]) } by unfold cStep; rw [if_pos H0.out, if_pos hk, HP.out, Int.toNat_natCast, e9])
      have g5 : ¬ (p : Int) < 0 := by omega
      have g6 : ¬ (3 : Int) < (p : Int) := by omega
      have g7 : ¬ (2 : Int) < (p : Int) := by omega
      have g8 : (p : Int) < 3 := by omega
      clear wp wm hk
      have hrow := HM.out.rowsAt (vs := tv) (ls := s.tl) (by with_reducible repeat first | exact ph | apply pt) p (by omega) (by omega)
      obtain ⟨a', c', hv'⟩ := hrow.len
      have c0 : tv[p]? = some (.slice a' (s.tl[p]'(by omega)).length c') := by rw [List.getElem?_eq_getElem (by omega), hv']
      have HV' := Lib.hid hv'
      clear hrow
      have hl4 : (s.tl[p]'(by omega)).length ≤ 4096 := by
        have h9 := (HKP.out.inv.told p hp3).2.1
        have h8 := (HKP.out.inv.told p hp3).1
        rw [e9] at h9 h8
        have h7 : (W J).length = J.T.l.length := by unfold W; rw [List.length_map]
        have h6 := HOK.out.1.slot
        have h5 := HOK.out.1.slot4
        omega
      have HL4 := Lib.hid hl4
      clear hl4 e9
      have fM := HM.out.fa
      go_wp2_with fail
      all_goals clear fM
      refine nxt HM fun w12 M => ?_
      clear HM; have HM := M; clear M
      have o1 := HM.out.rowsOff (vs := tv) (ls := s.tl) (b := nx) (by with_reducible repeat first | exact ph | apply pt) p (by omega) (by omega) (by with_reducible repeat first | exact ph | apply pt)
      have o2 := HM.out.rowsOff (vs := tv) (ls := s.tl) (b := nt) (by with_reducible repeat first | exact ph | apply pt) p (by omega) (by omega) (by with_reducible repeat first | exact ph | apply pt)
      have o3 := HM.out.rowsOff (vs := tv) (ls := s.tl) (b := nt + 1) (by with_reducible repeat first | exact ph | apply pt) p (by omega) (by omega) (by with_reducible repeat first | exact ph | apply pt)
      rw [HV'.out] at o1 o2 o3
      have fM := HM.out.fa
      refine wp_region_noPanic ?_
      have hE0 : Keeps (Own (.slice a' (s.tl[p]'(by omega)).length c')) w12 w12.drew := (Keeps.refl _ _).drew
      refine wp_region_plan [(0, 0), (1, 1), (0, 2), (1, 3), (0, 4), (1, 5), (0, 6), (3, 7), (2, 8), (2, 9), (0, 10)] [1, 3, 5] [8, 9, 11] [11] (ClsK (Own (.slice a' (s.tl[p]'(by omega)).length c')) w12) (by kernel_rfl) (by kernel_rfl) (by kernel_rfl) rfl rfl (ClsK.of hE0) (fun _ _ _ _ _ h => h) ?_; simp only [planL, nL]
      refine pR (v := ?_) rfl (fun W => ?_) ?_; rotate_left; (go_simp <;> with_reducible rfl); simp only [nP]
      refine pK (v := ?_) rfl (fun W => ?_) ?_; rotate_left; (go_simp <;> with_reducible rfl); simp only [nP]
      refine pR (v := ?_) rfl (fun W => ?_) ?_; rotate_left; (go_simp <;> with_reducible rfl); simp only [nP]
      refine pK (v := ?_) rfl (fun W => ?_) ?_; rotate_left; (go_simp <;> with_reducible rfl); simp only [nP]
      refine pR (v := ?_) rfl (fun W => ?_) ?_; rotate_left; (go_simp <;> with_reducible rfl); simp only [nP]
      refine pK (v := ?_) rfl (fun W => ?_) ?_; rotate_left; (go_simp <;> with_reducible rfl); simp only [nP]
      refine pR (v := ?_) rfl (fun W => ?_) ?_; rotate_left; (go_simp <;> with_reducible rfl); simp only [nP]
      refine pX (v := ?_) rfl ?_ ?_; rotate_left; (go_simp <;> with_reducible rfl); simp only [nP]
      refine plan_does rfl (fun K hK => ?_)
      go_wp2_with fail
      refine ⟨ClsK.of (by repeat (first | assumption | exact Keeps.refl _ _ | refine Keeps.alloc ?_ _ | refine Keeps.setOne ?_ _ _ | refine Keeps.setCell ?_ _ _ (.inl (by first | rfl | exact .inl rfl | exact .inr rfl | omega)) | refine Keeps.drew ?_)), ?_⟩; try simp only [nP]
      refine plan_does rfl (fun K hK => ?_)
      skip
      refine Mem.oper (wr := w12) HM.out.to (by repeat (first | assumption | exact Keeps.refl _ _ | with_reducible apply Keeps.drew | with_reducible apply Keeps.alloc)) fun w13 M hE13 => ?_
      replace HM := Lib.hid M
      clear M
      obtain ⟨Ahb, hb⟩ := HM.out.get (r := cellsR _ 35 [.int .i64 z.e.kind, .int .i64 z.e.member, .int .i64 z.e.number, .string (bs z.e.text)]) (by with_reducible repeat first | exact ph | apply pt)
      obtain ⟨pa, pc, w14, hr, hm, hK⟩ := Mem.addRows (vs := tv) (ls := s.tl) HM.out (by with_reducible repeat first | exact ph | apply pt) 47 p (by omega) (by omega) _ 1 z.e hb.2.reads.1 HL4.out
      rw [HV'.out] at hK
      have hK14 := (Ext.keeps hE13).trans hK
      replace HM := Lib.hid hm
      first
        | refine oper_append_ran _ _ hr rfl rfl rfl ?_
        | (rw [HV'.out] at hr; refine oper_append_ran _ _ hr rfl rfl rfl ?_)
      clear hr hm hb hE13 hK
      refine hK _ _ ⟨ClsK.of (by assumption), ?_⟩; clear hK K; try simp only [nP]
      refine pR (v := ?_) rfl (fun W => ?_) ?_; rotate_left; (go_simp <;> with_reducible rfl); simp only [nP]
      refine plan_nil ?_; simp only [tailL, List.filterMap_cons, List.filterMap_nil, nL]; change wpList _ _ _ (_ :: []) _ _
      clear fM
      clear o1 o2 o3 hE0
      have fM := HM.out.fa
      go_wp2_with fail
      all_goals clear fM
      refine NoPanic.ok ?_
      have fM := HM.out.fa
      go_wp2_with fail
      all_goals clear fM
      go_roundw
      case rel =>
        refine ⟨k + 1, { s with tl := s.tl.set p (s.tl[p]'(by omega) ++ [z.e]) }, (tv.set p (.slice pa ((s.tl[p]'(by omega)).length + 1) pc)), hv, by omega, by go_num, Lib.hid ⟨?_, by first | exact q1 | (rw [List.length_set]; exact q1), by first | exact q2 | (rw [List.length_set]; exact q2)⟩, Lib.hid ?_⟩
        · rw [HSN.out, ← HC.out]; exact HIV.out
        · rw [HSN.out]
          apply Mem.mem
          · skip
            exact HM.out.to
          intro w8 M
          skip
          exact Mem.sub M (by repeat first | exact Sub.nil | refine Sub.cons (by with_reducible repeat first | exact ph | apply pt) ?_)
      case measure => simp [intOf]; omega
    · -- back
      have hp3 : p < 3 := by have := (wp (.inr hk)).1; omega
      rw [hk] at HM
      have HC := Lib.hid (show cStep J z s = { s with tl := s.tl.set p [] } by unfold cStep; rw [if_pos H0.out, if_neg (by rw [hk]; decide), if_pos hk, HP.out]; rfl)
      have g5 : ¬ (p : Int) < 0 := by omega
      have g6 : ¬ (3 : Int) < (p : Int) := by omega
      have g7 : ¬ (2 : Int) < (p : Int) := by omega
      have g8 : (p : Int) < 3 := by omega
      clear wp wm hk
      have hrow := HM.out.rowsAt (vs := tv) (ls := s.tl) (by with_reducible repeat first | exact ph | apply pt) p (by omega) (by omega)
      obtain ⟨a', c', hv'⟩ := hrow.len
      have c0 : tv[p]? = some (.slice a' (s.tl[p]'(by omega)).length c') := by rw [List.getElem?_eq_getElem (by omega), hv']
      have HV' := Lib.hid hv'
      clear hrow
      have fM := HM.out.fa
      go_wp2_with fail
      all_goals clear fM
      go_roundw
      case rel =>
        refine ⟨k + 1, { s with tl := s.tl.set p [] }, (tv.set p (.slice none 0 0)), hv, by omega, by go_num, Lib.hid ⟨?_, by first | exact q1 | (rw [List.length_set]; exact q1), by first | exact q2 | (rw [List.length_set]; exact q2)⟩, Lib.hid ?_⟩
        · rw [HSN.out, ← HC.out]; exact HIV.out
        · rw [HSN.out]
          apply Mem.mem
          · skip
            exact HM.out.to
          intro w8 M
          skip
          exact Mem.sub (M.rowsNil (vs := tv) (ls := s.tl) (by with_reducible repeat first | exact ph | apply pt) p (by omega) (by omega)) (by repeat first | exact Sub.nil | refine Sub.cons (by with_reducible repeat first | exact ph | apply pt) ?_)
      case measure => simp [intOf]; omega
    · -- began
      have hp4 : p < 4 := by have := wm (.inr (.inl hk)); omega
      rw [hk] at HM
      have e9 : s.hl.getD p [] = s.hl[p]'(by omega) := by rw [List.getD_eq_getElem?_getD, List.getElem?_eq_getElem (by omega)]; rfl
      have g5 : ¬ (p : Int) < 0 := by omega
      have g6 : ¬ (3 : Int) < (p : Int) := by omega
      have g8 : (p : Int) < 4 := by omega
      have cf : (s.fr.map iV)[p]? = some (.int .i64 (s.fr[p]'(by omega))) := by rw [List.getElem?_map, List.getElem?_eq_getElem (by omega)]; rfl
      have HMS := Lib.hid (show (s.fr.map iV).set p (.int .i64 z.index) = (s.fr.set p z.index).map iV by rw [List.map_set]; rfl)
      have hrow := HM.out.rowsAt (vs := hv) (ls := s.hl) (by with_reducible repeat first | exact ph | apply pt) p (by omega) (by omega)
      obtain ⟨a', c', hv'⟩ := hrow.len
      clear hrow
      by_cases hne : s.hl[p]'(by omega) = []
      · have HC := Lib.hid (show cStep J z s = { s with fr := s.fr.set p z.index } by unfold cStep; rw [if_pos H0.out, if_neg (by rw [hk]; decide), if_neg (by rw [hk]; decide), if_pos hk, HP.out, Int.toNat_natCast, if_pos (by rw [e9]; exact hne)])
        rw [hne] at hv'
        clear wp wm hk e9
        have fM := HM.out.fa
        go_wp2_with fail
        all_goals clear fM
        go_roundw
        case rel =>
          refine ⟨k + 1, { s with fr := s.fr.set p z.index }, tv, hv, by omega, by go_num, Lib.hid ⟨?_, by first | exact q1 | (rw [List.length_set]; exact q1), by first | exact q2 | (rw [List.length_set]; exact q2)⟩, Lib.hid ?_⟩
          · rw [HSN.out, ← HC.out]; exact HIV.out
          · rw [HSN.out]
            apply Mem.mem
            · skip
              exact HM.out.to
            intro w8 M
            rw [HMS.out] at M
            exact Mem.sub M (by repeat first | exact Sub.nil | refine Sub.cons (by with_reducible repeat first | exact ph | apply pt) ?_)
        case measure => simp [intOf]; omega
      · have HC := Lib.hid (show cStep J z s = s by unfold cStep; rw [if_pos H0.out, if_neg (by rw [hk]; decide), if_neg (by rw [hk]; decide), if_pos hk, HP.out, Int.toNat_natCast, if_neg (by rw [e9]; exact hne)])
        have g9 : ((s.hl[p]'(by omega)).length : Int) ≠ 0 := fun h => hne (List.eq_nil_of_length_eq_zero (by omega))
        have g10 : (((s.hl[p]'(by omega)).length : Int) == 0) = false := by simpa using g9
        clear wp wm hk e9
        have fM := HM.out.fa
        go_wp2_with fail
        all_goals clear fM
        go_roundw
        case rel =>
          refine ⟨k + 1, s, tv, hv, by omega, by go_num, Lib.hid ⟨?_, by first | exact q1 | (rw [List.length_set]; exact q1), by first | exact q2 | (rw [List.length_set]; exact q2)⟩, Lib.hid ?_⟩
          · rw [HSN.out, ← HC.out]; exact HIV.out
          · rw [HSN.out]
            apply Mem.mem
            · skip
              exact HM.out.to
            intro w8 M
            skip
            exact Mem.sub M (by repeat first | exact Sub.nil | refine Sub.cons (by with_reducible repeat first | exact ph | apply pt) ?_)
        case measure => simp [intOf]; omega
    · -- told
      have hp4 : p < 4 := by have := wm (.inr (.inr (.inl hk))); omega
      rw [hk] at HM
      have e9 : s.hl.getD p [] = s.hl[p]'(by omega) := by rw [List.getD_eq_getElem?_getD, List.getElem?_eq_getElem (by omega)]; rfl
      have g5 : ¬ (p : Int) < 0 := by omega
      have g6 : ¬ (3 : Int) < (p : Int) := by omega
      have g8 : (p : Int) < 4 := by omega
      have cf : (s.fr.map iV)[p]? = some (.int .i64 (s.fr[p]'(by omega))) := by rw [List.getElem?_map, List.getElem?_eq_getElem (by omega)]; rfl
      have HMS := Lib.hid (show (s.fr.map iV).set p (.int .i64 z.index) = (s.fr.set p z.index).map iV by rw [List.map_set]; rfl)
      have hrow := HM.out.rowsAt (vs := hv) (ls := s.hl) (by with_reducible repeat first | exact ph | apply pt) p (by omega) (by omega)
      obtain ⟨a', c', hv'⟩ := hrow.len
      clear hrow
      by_cases hne : s.hl[p]'(by omega) = []
      · have HC := Lib.hid (show cStep J z s = { s with hl := s.hl.set p (s.hl[p]'(by omega) ++ [z.e]), fr := s.fr.set p z.index } by unfold cStep; rw [if_pos H0.out, if_neg (by rw [hk]; decide), if_neg (by rw [hk]; decide), if_neg (by rw [hk]; decide), if_pos hk, HP.out, Int.toNat_natCast, e9, if_pos hne])
        have HL4 := Lib.hid (show (s.hl[p]'(by omega)).length ≤ 4096 by rw [hne]; decide)
        have HV' := Lib.hid hv'
        have g10 : (((s.hl[p]'(by omega)).length : Int) == 0) = true := by rw [hne]; rfl
        clear wp wm hk e9 hne
        have fM := HM.out.fa
        go_wp2_with fail
        all_goals clear fM
        refine nxt HM fun w12 M => ?_
        clear HM; have HM := M; clear M
        have o1 := HM.out.rowsOff (vs := hv) (ls := s.hl) (b := nx) (by with_reducible repeat first | exact ph | apply pt) p (by omega) (by omega) (by with_reducible repeat first | exact ph | apply pt)
        have o3 := HM.out.rowsOff (vs := hv) (ls := s.hl) (b := nt + 1) (by with_reducible repeat first | exact ph | apply pt) p (by omega) (by omega) (by with_reducible repeat first | exact ph | apply pt)
        have o4 := HM.out.rowsOff (vs := hv) (ls := s.hl) (b := nt + 1 + 1) (by with_reducible repeat first | exact ph | apply pt) p (by omega) (by omega) (by with_reducible repeat first | exact ph | apply pt)
        rw [HV'.out] at o1 o3 o4
        have fM := HM.out.fa
        refine wp_region_noPanic ?_
        have hE0 : Keeps (Own (.slice a' (s.hl[p]'(by omega)).length c')) w12 w12.drew := (Keeps.refl _ _).drew
        refine wp_region_plan [(0, 0), (1, 1), (0, 2), (1, 3), (0, 4), (1, 5), (0, 6), (3, 7), (2, 8), (2, 9), (0, 10)] [1, 3, 5] [8, 9, 11] [11] (ClsK (Own (.slice a' (s.hl[p]'(by omega)).length c')) w12) (by kernel_rfl) (by kernel_rfl) (by kernel_rfl) rfl rfl (ClsK.of hE0) (fun _ _ _ _ _ h => h) ?_; simp only [planL, nL]
        refine pR (v := ?_) rfl (fun W => ?_) ?_; rotate_left; (go_simp <;> with_reducible rfl); simp only [nP]
        refine pK (v := ?_) rfl (fun W => ?_) ?_; rotate_left; (go_simp <;> with_reducible rfl); simp only [nP]
        refine pR (v := ?_) rfl (fun W => ?_) ?_; rotate_left; (go_simp <;> with_reducible rfl); simp only [nP]
        refine pK (v := ?_) rfl (fun W => ?_) ?_; rotate_left; (go_simp <;> with_reducible rfl); simp only [nP]
        refine pR (v := ?_) rfl (fun W => ?_) ?_; rotate_left; (go_simp <;> with_reducible rfl); simp only [nP]
        refine pK (v := ?_) rfl (fun W => ?_) ?_; rotate_left; (go_simp <;> with_reducible rfl); simp only [nP]
        refine pR (v := ?_) rfl (fun W => ?_) ?_; rotate_left; (go_simp <;> with_reducible rfl); simp only [nP]
        refine pX (v := ?_) rfl ?_ ?_; rotate_left; (go_simp <;> with_reducible rfl); simp only [nP]
        refine plan_does rfl (fun K hK => ?_)
        go_wp2_with fail
        refine ⟨ClsK.of (by repeat (first | assumption | exact Keeps.refl _ _ | refine Keeps.alloc ?_ _ | refine Keeps.setOne ?_ _ _ | refine Keeps.setCell ?_ _ _ (.inl (by first | rfl | exact .inl rfl | exact .inr rfl | omega)) | refine Keeps.drew ?_)), ?_⟩; try simp only [nP]
        refine plan_does rfl (fun K hK => ?_)
        skip
        refine Mem.oper (wr := w12) HM.out.to (by repeat (first | assumption | exact Keeps.refl _ _ | with_reducible apply Keeps.drew | with_reducible apply Keeps.alloc)) fun w13 M hE13 => ?_
        replace HM := Lib.hid M
        clear M
        obtain ⟨Ahb, hb⟩ := HM.out.get (r := cellsR _ 35 [.int .i64 z.e.kind, .int .i64 z.e.member, .int .i64 z.e.number, .string (bs z.e.text)]) (by with_reducible repeat first | exact ph | apply pt)
        obtain ⟨pa, pc, w14, hr, hm, hK⟩ := Mem.addRows (vs := hv) (ls := s.hl) HM.out (by with_reducible repeat first | exact ph | apply pt) 47 p (by omega) (by omega) _ 1 z.e hb.2.reads.1 HL4.out
        rw [HV'.out] at hK
        have hK14 := (Ext.keeps hE13).trans hK
        replace HM := Lib.hid hm
        first
          | refine oper_append_ran _ _ hr rfl rfl rfl ?_
          | (rw [HV'.out] at hr; refine oper_append_ran _ _ hr rfl rfl rfl ?_)
        clear hr hm hb hE13 hK
        refine hK _ _ ⟨ClsK.of (by assumption), ?_⟩; clear hK K; try simp only [nP]
        refine pR (v := ?_) rfl (fun W => ?_) ?_; rotate_left; (go_simp <;> with_reducible rfl); simp only [nP]
        refine plan_nil ?_; simp only [tailL, List.filterMap_cons, List.filterMap_nil, nL]; change wpList _ _ _ (_ :: []) _ _
        clear fM
        clear o1 o3 o4 hE0
        have fM := HM.out.fa
        go_wp2_with fail
        all_goals clear fM
        refine NoPanic.ok ?_
        have fM := HM.out.fa
        go_wp2_with fail
        all_goals clear fM
        go_roundw
        case rel =>
          refine ⟨k + 1, { s with hl := s.hl.set p (s.hl[p]'(by omega) ++ [z.e]), fr := s.fr.set p z.index }, tv, (hv.set p (.slice pa ((s.hl[p]'(by omega)).length + 1) pc)), by omega, by go_num, Lib.hid ⟨?_, by first | exact q1 | (rw [List.length_set]; exact q1), by first | exact q2 | (rw [List.length_set]; exact q2)⟩, Lib.hid ?_⟩
          · rw [HSN.out, ← HC.out]; exact HIV.out
          · rw [HSN.out]
            apply Mem.mem
            · skip
              exact HM.out.to
            intro w8 M
            rw [HMS.out] at M
            exact Mem.sub M (by repeat first | exact Sub.nil | refine Sub.cons (by with_reducible repeat first | exact ph | apply pt) ?_)
        case measure => simp [intOf]; omega
      · have HC := Lib.hid (show cStep J z s = { s with hl := s.hl.set p (s.hl[p]'(by omega) ++ [z.e]) } by unfold cStep; rw [if_pos H0.out, if_neg (by rw [hk]; decide), if_neg (by rw [hk]; decide), if_neg (by rw [hk]; decide), if_pos hk, HP.out, Int.toNat_natCast, e9, if_neg hne])
        have HL4 := Lib.hid (show (s.hl[p]'(by omega)).length ≤ 4096 by
          obtain ⟨h9, -⟩ := HKP.out.inv.heard p hp4 (by rw [e9]; exact hne)
          have h8 := h9.2.1
          have h8' := h9.1
          rw [e9] at h8
          have h7 : (W J).length = J.T.l.length := by unfold W; rw [List.length_map]
          have h6 := HOK.out.1.slot
          have h5 := HOK.out.1.slot4
          omega)
        have HV' := Lib.hid hv'
        have g9 : ((s.hl[p]'(by omega)).length : Int) ≠ 0 := fun h => hne (List.eq_nil_of_length_eq_zero (by omega))
        have g10 : (((s.hl[p]'(by omega)).length : Int) == 0) = false := by simpa using g9
        clear wp wm hk e9 hne
        have fM := HM.out.fa
        go_wp2_with fail
        all_goals clear fM
        refine nxt HM fun w12 M => ?_
        clear HM; have HM := M; clear M
        have o1 := HM.out.rowsOff (vs := hv) (ls := s.hl) (b := nx) (by with_reducible repeat first | exact ph | apply pt) p (by omega) (by omega) (by with_reducible repeat first | exact ph | apply pt)
        have o3 := HM.out.rowsOff (vs := hv) (ls := s.hl) (b := nt + 1) (by with_reducible repeat first | exact ph | apply pt) p (by omega) (by omega) (by with_reducible repeat first | exact ph | apply pt)
        have o4 := HM.out.rowsOff (vs := hv) (ls := s.hl) (b := nt + 1 + 1) (by with_reducible repeat first | exact ph | apply pt) p (by omega) (by omega) (by with_reducible repeat first | exact ph | apply pt)
        rw [HV'.out] at o1 o3 o4
        have fM := HM.out.fa
        refine wp_region_noPanic ?_
        have hE0 : Keeps (Own (.slice a' (s.hl[p]'(by omega)).length c')) w12 w12.drew := (Keeps.refl _ _).drew
        refine wp_region_plan [(0, 0), (1, 1), (0, 2), (1, 3), (0, 4), (1, 5), (0, 6), (3, 7), (2, 8), (2, 9), (0, 10)] [1, 3, 5] [8, 9, 11] [11] (ClsK (Own (.slice a' (s.hl[p]'(by omega)).length c')) w12) (by kernel_rfl) (by kernel_rfl) (by kernel_rfl) rfl rfl (ClsK.of hE0) (fun _ _ _ _ _ h => h) ?_; simp only [planL, nL]
        refine pR (v := ?_) rfl (fun W => ?_) ?_; rotate_left; (go_simp <;> with_reducible rfl); simp only [nP]
        refine pK (v := ?_) rfl (fun W => ?_) ?_; rotate_left; (go_simp <;> with_reducible rfl); simp only [nP]
        refine pR (v := ?_) rfl (fun W => ?_) ?_; rotate_left; (go_simp <;> with_reducible rfl); simp only [nP]
        refine pK (v := ?_) rfl (fun W => ?_) ?_; rotate_left; (go_simp <;> with_reducible rfl); simp only [nP]
        refine pR (v := ?_) rfl (fun W => ?_) ?_; rotate_left; (go_simp <;> with_reducible rfl); simp only [nP]
        refine pK (v := ?_) rfl (fun W => ?_) ?_; rotate_left; (go_simp <;> with_reducible rfl); simp only [nP]
        refine pR (v := ?_) rfl (fun W => ?_) ?_; rotate_left; (go_simp <;> with_reducible rfl); simp only [nP]
        refine pX (v := ?_) rfl ?_ ?_; rotate_left; (go_simp <;> with_reducible rfl); simp only [nP]
        refine plan_does rfl (fun K hK => ?_)
        go_wp2_with fail
        refine ⟨ClsK.of (by repeat (first | assumption | exact Keeps.refl _ _ | refine Keeps.alloc ?_ _ | refine Keeps.setOne ?_ _ _ | refine Keeps.setCell ?_ _ _ (.inl (by first | rfl | exact .inl rfl | exact .inr rfl | omega)) | refine Keeps.drew ?_)), ?_⟩; try simp only [nP]
        refine plan_does rfl (fun K hK => ?_)
        skip
        refine Mem.oper (wr := w12) HM.out.to (by repeat (first | assumption | exact Keeps.refl _ _ | with_reducible apply Keeps.drew | with_reducible apply Keeps.alloc)) fun w13 M hE13 => ?_
        replace HM := Lib.hid M
        clear M
        obtain ⟨Ahb, hb⟩ := HM.out.get (r := cellsR _ 35 [.int .i64 z.e.kind, .int .i64 z.e.member, .int .i64 z.e.number, .string (bs z.e.text)]) (by with_reducible repeat first | exact ph | apply pt)
        obtain ⟨pa, pc, w14, hr, hm, hK⟩ := Mem.addRows (vs := hv) (ls := s.hl) HM.out (by with_reducible repeat first | exact ph | apply pt) 47 p (by omega) (by omega) _ 1 z.e hb.2.reads.1 HL4.out
        rw [HV'.out] at hK
        have hK14 := (Ext.keeps hE13).trans hK
        replace HM := Lib.hid hm
        first
          | refine oper_append_ran _ _ hr rfl rfl rfl ?_
          | (rw [HV'.out] at hr; refine oper_append_ran _ _ hr rfl rfl rfl ?_)
        clear hr hm hb hE13 hK
        refine hK _ _ ⟨ClsK.of (by assumption), ?_⟩; clear hK K; try simp only [nP]
        refine pR (v := ?_) rfl (fun W => ?_) ?_; rotate_left; (go_simp <;> with_reducible rfl); simp only [nP]
        refine plan_nil ?_; simp only [tailL, List.filterMap_cons, List.filterMap_nil, nL]; change wpList _ _ _ (_ :: []) _ _
        clear fM
        clear o1 o3 o4 hE0
        have fM := HM.out.fa
        go_wp2_with fail
        all_goals clear fM
        refine NoPanic.ok ?_
        have fM := HM.out.fa
        go_wp2_with fail
        all_goals clear fM
        go_roundw
        case rel =>
          refine ⟨k + 1, { s with hl := s.hl.set p (s.hl[p]'(by omega) ++ [z.e]) }, tv, (hv.set p (.slice pa ((s.hl[p]'(by omega)).length + 1) pc)), by omega, by go_num, Lib.hid ⟨?_, by first | exact q1 | (rw [List.length_set]; exact q1), by first | exact q2 | (rw [List.length_set]; exact q2)⟩, Lib.hid ?_⟩
          · rw [HSN.out, ← HC.out]; exact HIV.out
          · rw [HSN.out]
            apply Mem.mem
            · skip
              exact HM.out.to
            intro w8 M
            skip
            exact Mem.sub M (by repeat first | exact Sub.nil | refine Sub.cons (by with_reducible repeat first | exact ph | apply pt) ?_)
        case measure => simp [intOf]; omega
    · -- went
      have hp4 : p < 4 := by have := wm (.inr (.inr (.inr hk))); omega
      rw [hk] at HM
      have HC := Lib.hid (show cStep J z s = { s with hl := s.hl.set p [] } by unfold cStep; rw [if_pos H0.out, if_neg (by rw [hk]; decide), if_neg (by rw [hk]; decide), if_neg (by rw [hk]; decide), if_neg (by rw [hk]; decide), if_pos hk, HP.out]; rfl)
      have g5 : ¬ (p : Int) < 0 := by omega
      have g6 : ¬ (3 : Int) < (p : Int) := by omega
      have g8 : (p : Int) < 4 := by omega
      clear wp wm hk
      have hrow := HM.out.rowsAt (vs := hv) (ls := s.hl) (by with_reducible repeat first | exact ph | apply pt) p (by omega) (by omega)
      obtain ⟨a', c', hv'⟩ := hrow.len
      have c0 : hv[p]? = some (.slice a' (s.hl[p]'(by omega)).length c') := by rw [List.getElem?_eq_getElem (by omega), hv']
      have HV' := Lib.hid hv'
      clear hrow
      have fM := HM.out.fa
      go_wp2_with fail
      all_goals clear fM
      go_roundw
      case rel =>
        refine ⟨k + 1, { s with hl := s.hl.set p [] }, tv, (hv.set p (.slice none 0 0)), by omega, by go_num, Lib.hid ⟨?_, by first | exact q1 | (rw [List.length_set]; exact q1), by first | exact q2 | (rw [List.length_set]; exact q2)⟩, Lib.hid ?_⟩
        · rw [HSN.out, ← HC.out]; exact HIV.out
        · rw [HSN.out]
          apply Mem.mem
          · skip
            exact HM.out.to
          intro w8 M
          skip
          exact Mem.sub (M.rowsNil (vs := hv) (ls := s.hl) (by with_reducible repeat first | exact ph | apply pt) p (by omega) (by omega)) (by repeat first | exact Sub.nil | refine Sub.cons (by with_reducible repeat first | exact ph | apply pt) ?_)
      case measure => simp [intOf]; omega
end Go.Proofs.YthhdgjofagdjeaaDoor
end
