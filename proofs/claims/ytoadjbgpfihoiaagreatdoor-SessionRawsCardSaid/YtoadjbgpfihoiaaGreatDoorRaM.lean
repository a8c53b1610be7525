/- Texts Check, Raw, Parse, WkP, one behind the other. Conditions: as each says. -/
import Derived.Test.YtoadjbgpfihoiaaGreatDoorRaL
set_option linter.unusedVariables false
set_option linter.unusedSimpArgs false
set_option maxHeartbeats 8000000
set_option maxRecDepth 100000
namespace Go.Proofs.YtoadjbgpfihoiaaGreatDoor
open Go.RowKit
section
theorem partCells_eq (k : Nat) (p : Part) : partCells k p = [.func (.func (clearF p)) #[] #[], .func (.func (mayF k p).1) #[] (mayF k p).2, .func (.func (layF p)) #[] #[], .func (.func (takeF p)) #[] #[]] := by cases p <;> rfl
theorem partCells_len (k : Nat) (p : Part) : (partCells k p).length = 4 := by rw [partCells_eq]; rfl
theorem pcs_get (k : Nat) : ∀ (ps : List Part) (j i : Nat) (hj : j < ps.length), i < 4 → (pcs k ps)[j * 4 + i]? = (partCells k ps[j])[i]?
 | p :: ps, 0, i, hj, hi => by
   unfold pcs
   rw [List.map_cons, List.flatten_cons, Nat.zero_mul, Nat.zero_add, List.getElem?_append_left (by rw [partCells_len]; exact hi)]
   rfl
 | p :: ps, j + 1, i, hj, hi => by
   have ih := pcs_get k ps j i (by simpa using hj) hi
   unfold pcs at ih ⊢
   rw [List.map_cons, List.flatten_cons, List.getElem?_append_right (by rw [partCells_len]; omega), partCells_len, show (j + 1) * 4 + i - 4 = j * 4 + i by omega, ih]
   rfl
theorem clear_enters (p : Part) : ∀ args w, (callFunc (clearF p) args).run Tryz.prog w = .ok (.enter (clearF p) args) w := by
 cases p
 · exact enters_of Tryz.func237 (by kernel_rfl) rfl
 · exact enters_of Tryz.func248 (by kernel_rfl) rfl
 · exact enters_of Tryz.func257 (by kernel_rfl) rfl
 · exact enters_of Tryz.func261 (by kernel_rfl) rfl
 · exact enters_of Tryz.func253 (by kernel_rfl) rfl
 · exact enters_of Tryz.func242 (by kernel_rfl) rfl
 · exact enters_of Tryz.func267 (by kernel_rfl) rfl
theorem lay_enters (p : Part) : ∀ args w, (callFunc (layF p) args).run Tryz.prog w = .ok (.enter (layF p) args) w := by
 cases p
 · exact enters_of Tryz.func240 (by kernel_rfl) rfl
 · exact enters_of Tryz.func251 (by kernel_rfl) rfl
 · exact enters_of Tryz.func259 (by kernel_rfl) rfl
 · exact enters_of Tryz.func263 (by kernel_rfl) rfl
 · exact enters_of Tryz.func255 (by kernel_rfl) rfl
 · exact enters_of Tryz.func244 (by kernel_rfl) rfl
 · exact enters_of Tryz.func270 (by kernel_rfl) rfl
theorem take_enters (p : Part) : ∀ args w, (callFunc (takeF p) args).run Tryz.prog w = .ok (.enter (takeF p) args) w := by
 cases p
 · exact enters_of Tryz.func241 (by kernel_rfl) rfl
 · exact enters_of Tryz.func252 (by kernel_rfl) rfl
 · exact enters_of Tryz.func260 (by kernel_rfl) rfl
 · exact enters_of Tryz.func265 (by kernel_rfl) rfl
 · exact enters_of Tryz.func256 (by kernel_rfl) rfl
 · exact enters_of Tryz.func246 (by kernel_rfl) rfl
 · exact enters_of Tryz.func271 (by kernel_rfl) rfl
theorem may_enters (k : Nat) (p : Part) : ∀ args w, (callFunc (mayF k p).1 args).run Tryz.prog w = .ok (.enter (mayF k p).1 args) w := by
 cases p
 · exact enters_of Tryz.func238 (by kernel_rfl) rfl
 · exact enters_of Tryz.func249 (by kernel_rfl) rfl
 · exact enters_of Tryz.func258 (by kernel_rfl) rfl
 · exact enters_of Tryz.func262 (by kernel_rfl) rfl
 · exact enters_of Tryz.func254 (by kernel_rfl) rfl
 · exact enters_of Tryz.func243 (by kernel_rfl) rfl
 · exact enters_of Tryz.func268 (by kernel_rfl) rfl
theorem parts_at {A : Nat → Prop} {w : World} {v : Value} {ps : List Part} (h : (partsR v ps).p A w) : ∃ a k, v = .slice a ps.length ps.length ∧ (∀ least, Part.number least ∈ ps → Box w k 2 [.int .i64 least]) ∧
 ∀ j (hj : j < ps.length), ∃ q, a = some ⟨q, 0, none⟩ ∧ q < w.heap.size ∧ w.cell? ⟨q, j * 4, none⟩ = some (.func (.func (clearF ps[j])) #[] #[]) ∧ w.cell? ⟨q, j * 4 + 1, none⟩ = some (.func (.func (mayF k ps[j]).1) #[] (mayF k ps[j]).2) ∧
   w.cell? ⟨q, j * 4 + 2, none⟩ = some (.func (.func (layF ps[j])) #[] #[]) ∧ w.cell? ⟨q, j * 4 + 3, none⟩ = some (.func (.func (takeF ps[j])) #[] #[]) := by
 obtain ⟨⟨k, h1, h2⟩, -⟩ := h
 rcases h2 with ⟨rfl, rfl⟩ | ⟨q, h3, rfl, h4⟩
 · exact ⟨none, k, rfl, fun l hl => (h1 l hl).2, fun j hj => absurd hj (by simp)⟩
 · refine ⟨some ⟨q, 0, none⟩, k, rfl, fun l hl => (h1 l hl).2, fun j hj => ⟨q, rfl, h4.lt, ?_⟩⟩
   have c := fun i (hi : i < 4) => (h4.reads.1 (j * 4 + i)).trans (pcs_get k ps j i hj hi)
   rw [partCells_eq] at c
   exact ⟨c 0 (by decide), c 1 (by decide), c 2 (by decide), c 3 (by decide)⟩
theorem parts_at' {A : Nat → Prop} {w : World} {a : Option Addr} {ps : List Part} (h : (partsR (.slice a ps.length ps.length) ps).p A w) : ∃ k, (∀ least, Part.number least ∈ ps → Box w k 2 [.int .i64 least]) ∧
 ∀ j (hj : j < ps.length), ∃ q, a = some ⟨q, 0, none⟩ ∧ q < w.heap.size ∧ w.cell? ⟨q, j * 4, none⟩ = some (.func (.func (clearF ps[j])) #[] #[]) ∧ w.cell? ⟨q, j * 4 + 1, none⟩ = some (.func (.func (mayF k ps[j]).1) #[] (mayF k ps[j]).2) ∧
   w.cell? ⟨q, j * 4 + 2, none⟩ = some (.func (.func (layF ps[j])) #[] #[]) ∧ w.cell? ⟨q, j * 4 + 3, none⟩ = some (.func (.func (takeF ps[j])) #[] #[]) := by
 obtain ⟨a', k, h1, h2, h3⟩ := parts_at h
 cases h1
 exact ⟨k, h2, h3⟩
theorem parts_len {A : Nat → Prop} {w : World} {v : Value} {ps : List Part} (h : (partsR v ps).p A w) : ∃ a, v = .slice a ps.length ps.length := let ⟨a, _, h, _⟩ := parts_at h; ⟨a, h⟩
theorem partsOf_len (n : Int) : ((partsOf n).getD []).length ≤ 3 := by
 unfold partsOf
 by_cases h1 : n = 1
 · rw [if_pos h1]; decide
 by_cases h2 : n = 2
 · rw [if_neg h1, if_pos h2]; decide
 by_cases h3 : n = 3
 · rw [if_neg h1, if_neg h2, if_pos h3]; decide
 rw [if_neg h1, if_neg h2, if_neg h3]
 by_cases h4 : n = 4
 · rw [if_pos h4]; decide
 by_cases h5 : n = 5
 · rw [if_neg h4, if_pos h5]; decide
 by_cases h6 : n = 6
 · rw [if_neg h4, if_neg h5, if_pos h6]; decide
 rw [if_neg h4, if_neg h5, if_neg h6]
 by_cases h7 : n = 7
 · rw [if_pos h7]; decide
 by_cases h8 : n = 8
 · rw [if_neg h7, if_pos h8]; decide
 by_cases h9 : n = 9
 · rw [if_neg h7, if_neg h8, if_pos h9]; decide
 rw [if_neg h7, if_neg h8, if_neg h9]
 by_cases h10 : n = 10
 · rw [if_pos h10]; decide
 by_cases h11 : n = 11
 · rw [if_neg h10, if_pos h11]; decide
 rw [if_neg h10, if_neg h11]
 by_cases h12 : n = 12
 · rw [if_pos h12]; decide
 · rw [if_neg h12]; decide
theorem foldl_take {α β : Type} (f : β → α → β) (b : β) (l : List α) (j : Nat) (h : j < l.length) : (l.take (j + 1)).foldl f b = f ((l.take j).foldl f b) l[j] := by
 rw [List.take_succ_eq_append_getElem h, List.foldl_append]; rfl
theorem partV_eq (k : Nat) (p : Part) : partV k p = .agg #[.func (.func (clearF p)) #[] #[], .func (.func (mayF k p).1) #[] (mayF k p).2, .func (.func (layF p)) #[] #[], .func (.func (takeF p)) #[] #[]] := by unfold partV; rw [partCells_eq]
theorem check1_any (W w : World) (hT : Tabs W) (hE : Ext W w) (ks k : Nat) (p : Part) (s : Sd) (hs : OkS s) (hb : Box w ks 37 s.cells) (hk : ∀ n, p = .number n → Box w k 2 [.int .i64 n]) :
 Calls Tryz.prog 151 #[partV k p, .pointer (some ⟨ks, 0, none⟩)] w fun e w' => e = .returned (.bool (!p.may s)) ∧ Ext w w' := by
 have HM := Lib.hid (Mem.start0 w)
 have HE := Lib.hid hE
 have HK := Lib.hid hk
 have HB := Lib.hid hb
 have hen := may_enters k p
 have HV := Lib.hid (show s.v = .agg s.cells.toArray from rfl)
 rw [partV_eq]
 clear hE hk hb
 obtain ⟨f, cs, hfc⟩ : ∃ f cs, mayF k p = (f, cs) := ⟨_, _, rfl⟩
 have HFC := Lib.hid hfc
 rw [hfc] at hen ⊢
 dsimp only at hen ⊢
 clear hfc
 unfold Sd.cells at HB
 go_enter Tryz.func151, Tryz.ntmps151
 have fM := HM.out.fa
 have fMHB := (HB.out.ext HM.out.extTo).reads
 have fLHB := (HB.out.ext HM.out.extTo).lt
 go_wp2_with fail
 all_goals clear fM fMHB fLHB
 refine nxt HM fun w1 M => ?_
 clear HM; have HM := M; clear M
 have hm := may_any W w1 hT (HE.out.ext HM.out.extTo) k p s hs (fun n hn => (HK.out n hn).ext HM.out.extTo)
 rw [HFC.out] at hm
 dsimp only at hm
 unfold Sd.v Sd.cells at hm
 clear hen
 refine hm.mono ?_
 clear hm
 rintro e w2 ⟨rfl, hE2⟩
 replace HM := Lib.hid (HM.out.ext hE2)
 clear hE2
 go_wp2_with fail
 go_ret
 exact ⟨rfl, HM.out.extTo⟩
theorem pindex_any (W w : World) (hT : Tabs W) (hE : Ext W w) (ks : Nat) (a : Option Addr) (ps : List Part) (s : Sd) (hs : OkS s) (hl : ps.length ≤ 3) {A : Nat → Prop} (hp : (partsR (.slice a ps.length ps.length) ps).p A w) (hb : Box w ks 37 s.cells) :
 Calls Tryz.prog 209 #[.slice a ps.length ps.length, .func (.func 151) #[] #[.pointer (some ⟨ks, 0, none⟩)]] w fun e w' => (∃ r : Int, e = .returned (.int .i64 r) ∧ decide (0 ≤ r) = !(ps.all fun p => p.may s)) ∧ Ext w w' := by
 have HE := Lib.hid hE
 have HP := Lib.hid hp
 have HB := Lib.hid hb
 have hc := enters_of (P := Tryz.prog) Tryz.func151 (by kernel_rfl) rfl
 clear hE hp hb
 go_enter Tryz.func209, Tryz.ntmps209
 go_wp2_with fail
 go_loopw [8] (fun i wr => ∃ j : Nat, j ≤ ps.length ∧ i = .int .i64 j ∧ Hid (((ps.take j).all fun p => p.may s) = true) ∧ Hid (Mem NoB w wr [])) (fun i _ => ps.length - (intOf i).toNat)
 case atStart => exact ⟨0, Nat.zero_le _, rfl, Lib.hid (by simp), Lib.hid (Mem.start0 w)⟩
 case round =>
  obtain ⟨j, hj, rfl, HAL, HM⟩ := hrel
  by_cases hlt : j < ps.length
  · have g1 : (j : Int) < ps.length := by omega
    have g2 : ¬ (j : Int) < 0 := by omega
    have he := HM.out.extTo
    have hp2 := Res.keeps _ HP.out he (fun _ _ => noB _)
    obtain ⟨k, hnum, hat⟩ := parts_at' hp2
    obtain ⟨q, rfl, hq, c0, c1, c2, c3⟩ := hat j hlt
    have HSN := Lib.hid (show ((ps.take (j + 1)).all fun p => p.may s) = (((ps.take j).all fun p => p.may s) && ps[j].may s) by rw [List.take_succ_eq_append_getElem hlt, List.all_append]; simp)
    have HIN := Lib.hid (List.getElem_mem hlt)
    have HNU := Lib.hid hnum
    obtain ⟨p, hpj⟩ : ∃ p, ps[j] = p := ⟨_, rfl⟩
    rw [hpj] at c0 c1 c2 c3 HSN HIN
    clear hp2 hat hpj hnum he
    go_wp2_with fail
    clear c0 c1 c2 c3
    rw [← partV_eq]
    refine (check1_any W wr hT (HE.out.ext HM.out.extTo) ks k p s hs (HB.out.ext HM.out.extTo) (fun n hn => HNU.out n (by rw [← hn]; exact HIN.out))).mono ?_
    rintro e w2 ⟨rfl, hE2⟩
    replace HM := Lib.hid (HM.out.ext hE2)
    clear hE2
    cases hm : p.may s
    · go_wp2_with fail
      go_ret
      refine ⟨⟨_, rfl, ?_⟩, HM.out.extTo⟩
      rw [decide_eq_true (by omega)]
      symm
      rw [Bool.not_eq_true', List.all_eq_false]
      exact ⟨p, HIN.out, by rw [hm]; simp⟩
    · rw [hm, HAL.out] at HSN
      clear hm
      go_wp2_with fail
      go_roundw
      case rel => exact ⟨j + 1, by omega, by go_num, HSN, HM⟩
      case measure => simp [intOf]; omega
  · obtain rfl : j = ps.length := by omega
    rw [List.take_length] at HAL
    go_wp2_with fail
    go_ret
    exact ⟨⟨-1, rfl, by rw [HAL.out]; rfl⟩, HM.out.extTo⟩
theorem pcontains_any (W w : World) (hT : Tabs W) (hE : Ext W w) (ks : Nat) (a : Option Addr) (ps : List Part) (s : Sd) (hs : OkS s) (hl : ps.length ≤ 3) {A : Nat → Prop} (hp : (partsR (.slice a ps.length ps.length) ps).p A w) (hb : Box w ks 37 s.cells) :
 Calls Tryz.prog 150 #[.slice a ps.length ps.length, .func (.func 151) #[] #[.pointer (some ⟨ks, 0, none⟩)]] w fun e w' => e = .returned (.bool (!(ps.all fun p => p.may s))) ∧ Ext w w' := by
 have HE := Lib.hid hE
 have HP := Lib.hid hp
 have HB := Lib.hid hb
 clear hE hp hb
 go_enter Tryz.func150, Tryz.ntmps150
 go_wp2_with fail
 refine (pindex_any W w hT HE.out ks a ps s hs hl HP.out HB.out).mono ?_
 rintro e w2 ⟨⟨r, rfl, hr⟩, hE2⟩
 have HE2 := Lib.hid hE2
 have HR := Lib.hid hr
 clear hE2 hr
 go_wp2_with fail
 go_ret
 exact ⟨by rw [← HR.out]; rfl, HE2.out⟩
def chkI (s : Sd) : Int := if sdB s = true then 0 else 2
theorem check_any (W w : World) (hT : Tabs W) (hE : Ext W w) (s : Sd) (hs : OkS s) (hk : I64 s.kind) :
 Calls Tryz.prog 90 #[s.v] w fun e w' => e = .returned (.int .i64 (chkI s)) ∧ Ext w w' := by
 have HM := Lib.hid (Mem.start0 w)
 have HE := Lib.hid hE
 have HS := Lib.hid hs
 have HK := Lib.hid hk
 have hmf : ∀ (fn : Fn) (first cap : Array Value) (w : World), (Instr.makeFunc fn first cap).run Tryz.prog w = .ok (.func fn first cap) w := fun _ _ _ _ => rfl
 have HV := Lib.hid (show s.v = .agg s.cells.toArray from rfl)
 clear hE hs hk
 unfold Sd.v Sd.cells
 go_enter Tryz.func90, Tryz.ntmps90
 have fM := HM.out.fa
 go_wp2_with fail
 all_goals clear fM
 obtain ⟨ks, hks⟩ : ∃ k, w.heap.size = k := ⟨_, rfl⟩
 refine nxt HM fun w1 M => ?_
 clear HM; have HM := M; clear M
 rw [hks] at HM ⊢
 clear hks
 have fM := HM.out.fa
 have hE0 : Keeps NoB w1 w1.drew := (Keeps.refl _ _).drew
 refine wp_region_plan [(0, 1), (1, 2), (2, 0), (2, 3), (0, 4), (0, 5), (0, 6), (0, 7), (0, 8)] [2] [0, 3] [] (ClsE w1) (by kernel_rfl) (by kernel_rfl) (by kernel_rfl) rfl rfl (ClsE.of hE0) (fun _ _ _ d _ h => by cases d <;> exact h) ?_; simp only [planL, nL]
 refine pR rfl (fun W => by go_simp <;> with_reducible rfl) ?_; simp only [nP]
 refine pL rfl (fun W => by go_simp <;> with_reducible rfl) ?_; simp only [nP]
 refine plan_does rfl (fun K hK => ?_)
 go_wp2_with fail
 refine (kinds_any _).mono ?_
 rintro e w2 ⟨m, rfl, hU⟩
 obtain ⟨F2, u1, u2, u3⟩ := hU
 have hE2 := hE0.ext u2
 obtain ⟨v, hlk, hpv⟩ := kinds_look u1 s.kind HK.out true
 replace HM := Lib.hid (HM.out.new (r := partsR v ((partsOf s.kind).getD [])) (G := F2) hE2 hpv (fun k hk => (u3 k hk).elim (fun h => (noB _ h).elim) id))
 simp only [if_true] at hlk
 clear u1 u2 u3 hpv
 clear F2
 refine hK _ _ ⟨ClsE.of (by assumption), ?_⟩; clear hK K; try simp only [nP]
 refine plan_does rfl (fun K hK => ?_)
 go_wp2_with fail
 refine ⟨ClsE.of (by repeat (first | assumption | exact Keeps.refl _ _ | refine Keeps.alloc ?_ _ | refine Keeps.setOne ?_ _ _ | refine Keeps.setCell ?_ _ _ (.inl (by first | rfl | exact .inl rfl | exact .inr rfl | omega)) | refine Keeps.drew ?_)), ?_⟩; try simp only [nP]
 refine pM _ rfl rfl ?_; simp only [nP, nE]
 iterate 2 (refine pR rfl (fun W => by go_simp <;> with_reducible rfl) ?_; simp only [nP])
 iterate 2 (refine pA _ rfl rfl ?_; simp only [nP, nE])
 refine plan_nil ?_; simp only [tailL, List.filterMap_nil]
 clear fM
 obtain ⟨ps, hps⟩ : ∃ ps, (partsOf s.kind).getD [] = ps := ⟨_, rfl⟩
 have hpl := partsOf_len s.kind
 rw [hps] at HM hpl
 have HPS := Lib.hid hps
 obtain ⟨Ahp, hp⟩ := HM.out.get (r := partsR v ps) pk
 obtain ⟨a, rfl⟩ := parts_len hp
 clear hE0 hE2 hp hlk hps
 have fM := HM.out.fa
 go_wp2_with fail
 all_goals clear fM
 obtain ⟨kr, hkr⟩ : ∃ k, w2.heap.size = k := ⟨_, rfl⟩
 refine nxt HM fun w3 M => ?_
 clear HM; have HM := M; clear M
 rw [hkr] at HM ⊢
 clear hkr
 have hs0 : Mem NoB w w3 [cellsR kr 37 ((ps.take 0).foldl (fun x p => p.clear x) s).cells, cellsR ks 37 s.cells, partsR (.slice a ps.length ps.length) ps] := Mem.sub HM.out (L' := [cellsR kr 37 s.cells, cellsR ks 37 s.cells, partsR (.slice a ps.length ps.length) ps]) sb
 replace HM := Lib.hid hs0
 clear hs0
 go_loopw [18] (fun i wr => ∃ j : Nat, j ≤ ps.length ∧ i = .int .i64 j ∧ Hid (Mem NoB w wr [cellsR kr 37 ((ps.take j).foldl (fun x p => p.clear x) s).cells, cellsR ks 37 s.cells, partsR (.slice a ps.length ps.length) ps])) (fun i _ => ps.length - (intOf i).toNat)
 case atStart => exact ⟨0, Nat.zero_le _, rfl, HM⟩
 case round =>
  clear HM
  obtain ⟨j, hj, rfl, HM⟩ := hrel
  by_cases hlt : j < ps.length
  · have g1 : (j : Int) < ps.length := by omega
    have g2 : ¬ (j : Int) < 0 := by omega
    obtain ⟨Ahp, hp⟩ := HM.out.get (r := partsR (.slice a ps.length ps.length) ps) pk
    obtain ⟨k, -, hat⟩ := parts_at' hp
    obtain ⟨q, rfl, hq, c0, c1, c2, c3⟩ := hat j hlt
    have HF := Lib.hid (foldl_take (fun x (p : Part) => p.clear x) s ps j hlt)
    obtain ⟨p, hpj⟩ : ∃ p, ps[j] = p := ⟨_, rfl⟩
    rw [hpj] at c0 c1 c2 c3 HF
    obtain ⟨x, hx⟩ : ∃ x, (ps.take j).foldl (fun x (p : Part) => p.clear x) s = x := ⟨_, rfl⟩
    rw [hx] at HF HM
    have hen := clear_enters p
    clear hp hat hpj hx
    have fM := HM.out.fa
    go_wp2_with fail
    all_goals clear fM
    refine nxt HM fun w4 M => ?_
    clear HM; have HM := M; clear M
    obtain ⟨C, hC, hS⟩ := (HM.out.pick (r := cellsR kr 37 x.cells) pk).step
    refine (clear_any w4 kr p x hC).mono ?_
    rintro e w5 ⟨rfl, hU⟩
    replace HM := Lib.hid (hS _ _ hU)
    clear hU hS hC C hen c0 c1 c2 c3
    go_wp2_with fail
    go_roundw
    case rel =>
     refine ⟨j + 1, by omega, by go_num, Lib.hid ?_⟩
     rw [HF.out]
     exact Mem.sub HM.out sb
    case measure => simp [intOf]; omega
  · obtain rfl : j = ps.length := by omega
    rw [List.take_length] at HM
    obtain ⟨x, hx⟩ : ∃ x, ps.foldl (fun x (p : Part) => p.clear x) s = x := ⟨_, rfl⟩
    rw [hx] at HM
    have HX := Lib.hid hx
    clear hx
    cases ho : partsOf s.kind with
    | none =>
      have hq : chkI s = 2 := by unfold chkI sdB; rw [ho]; rfl
      have HQ := Lib.hid hq
      simp only [Option.isSome_none]
      clear ho hq
      have fM := HM.out.fa
      go_wp2_with fail
      all_goals clear fM
      go_ret
      rw [HQ.out]
      exact ⟨rfl, HM.out.extTo⟩
    | some ps' =>
      obtain rfl : ps' = ps := by have := HPS.out; rw [ho] at this; exact this
      have hsb : sdB s = (decide (x = Sd.of s.kind) && ps'.all fun p => p.may s) := by unfold sdB; rw [ho]; dsimp only; rw [HX.out]
      have HSB := Lib.hid hsb
      simp only [Option.isSome_some]
      have HNE := Lib.hid (show ∀ W, (binOp .neq 37 (.agg #[.int .i64 x.kind, .int .i64 x.member, .int .i64 x.number, .int .i64 x.index, .bool x.is, .string (bs x.text), .string (bs x.token), .int .i64 x.e.kind, .int .i64 x.e.member, .int .i64 x.e.number, .string (bs x.e.text)]) (.agg #[.int .i64 s.kind, .int .i64 0, .int .i64 0, .int .i64 0, .bool false, .string ⟨#[]⟩, .string ⟨#[]⟩, .int .i64 0, .int .i64 0, .int .i64 0, .string ⟨#[]⟩])).run Tryz.prog W = .ok (.bool (!decide (x = Sd.of s.kind))) W from fun W => ne_sd x (Sd.of s.kind) W)
      clear hsb ho
      by_cases hx : x = Sd.of s.kind
      case neg =>
       have HQ := Lib.hid (show chkI s = 2 by unfold chkI; rw [HSB.out, decide_eq_false hx]; rfl)
       have hne := HNE.out
       rw [decide_eq_false hx, Bool.not_false] at hne
       clear hx
       have fM := HM.out.fa
       go_wp2_with fail
       all_goals clear fM
       go_ret
       rw [HQ.out]
       exact ⟨rfl, HM.out.extTo⟩
      have HXE := Lib.hid hx
      have hne := HNE.out
      rw [decide_eq_true hx, Bool.not_true] at hne
      clear hx
      have fM := HM.out.fa
      go_wp2_with fail
      all_goals clear fM
      clear hne
      obtain ⟨Ahp, hp⟩ := HM.out.get (r := partsR (.slice a ps'.length ps'.length) ps') pk
      obtain ⟨Ahb, hb⟩ := HM.out.get (r := cellsR ks 37 s.cells) pk
      refine (pcontains_any W wr hT (HE.out.ext HM.out.extTo) ks a ps' s HS.out hpl hp hb.2).mono ?_
      rintro e w2 ⟨rfl, hE2⟩
      replace HM := Lib.hid (HM.out.ext hE2)
      clear hE2 hp hb
      cases hal : ps'.all fun p => p.may s
      · have HQ := Lib.hid (show chkI s = 2 by unfold chkI; rw [HSB.out, hal, Bool.and_false]; rfl)
        clear hal
        simp only [Bool.not_false]
        go_wp2_with fail
        go_ret
        rw [HQ.out]
        exact ⟨rfl, HM.out.extTo⟩
      · have HQ := Lib.hid (show chkI s = 0 by unfold chkI; rw [HSB.out, hal, decide_eq_true HXE.out]; rfl)
        clear hal
        simp only [Bool.not_true]
        go_wp2_with fail
        go_ret
        rw [HQ.out]
        exact ⟨rfl, HM.out.extTo⟩
end
section
theorem partsOf_kind {k : Int} {ps : List Part} (h : partsOf k = some ps) : 1 ≤ k ∧ k ≤ 12 := by
 by_cases hk : 1 ≤ k ∧ k ≤ 12
 · exact hk
 · exfalso
   unfold partsOf at h
   rw [if_neg (by omega), if_neg (by omega), if_neg (by omega), if_neg (by omega), if_neg (by omega), if_neg (by omega), if_neg (by omega), if_neg (by omega), if_neg (by omega), if_neg (by omega), if_neg (by omega), if_neg (by omega)] at h
   cases h
theorem partsOf_num {k n : Int} {ps : List Part} (h : partsOf k = some ps) (hm : Part.number n ∈ ps) : 0 ≤ n := by
 have hk := partsOf_kind h
 obtain rfl | rfl | rfl | rfl | rfl | rfl | rfl | rfl | rfl | rfl | rfl | rfl : k = 1 ∨ k = 2 ∨ k = 3 ∨ k = 4 ∨ k = 5 ∨ k = 6 ∨ k = 7 ∨ k = 8 ∨ k = 9 ∨ k = 10 ∨ k = 11 ∨ k = 12 := by omega
 all_goals
  simp [partsOf] at h
  subst h
  simp at hm
 all_goals omega
theorem raw_ok (W w : World) (hT : Tabs W) (hE : Ext W w) (s : Sd) (hs : OkS s) (hb : sdB s = true) :
 Calls Tryz.prog 92 #[s.v] w fun e w' => ∃ v, e = .returned (.tuple #[v, .int .i64 0]) ∧ Upd NoB w w' (bytR v (frameL (bodyL s))) := by
 obtain ⟨ps, hps, hall⟩ : ∃ ps, partsOf s.kind = some ps ∧ (ps.all fun p => p.may s) = true := by
  unfold sdB at hb
  cases hp : partsOf s.kind with
  | none => rw [hp] at hb; cases hb
  | some ps => rw [hp] at hb; dsimp only at hb; rw [Bool.and_eq_true] at hb; exact ⟨ps, rfl, hb.2⟩
 have hkk := partsOf_kind hps
 obtain ⟨kd, hkd⟩ : ∃ kd : Nat, s.kind = kd := ⟨s.kind.toNat, by omega⟩
 have HKD := Lib.hid (show s.kind = (kd : Int) ∧ kd ≤ 12 ∧ I64 s.kind from ⟨hkd, by omega, by unfold I64; omega⟩)
 have hbod : bodyL s = numL kd ++ (ps.map fun p => p.lay s).flatten := by unfold bodyL; rw [hps, hkd]; rfl
 have HBO := Lib.hid hbod
 have hpl := partsOf_len s.kind
 rw [hps] at hpl
 have HPL := Lib.hid (show ps.length ≤ 3 from hpl)
 have HPS := Lib.hid (show (partsOf s.kind).getD [] = ps by rw [hps]; rfl)
 have HNU := Lib.hid (fun n (hm : Part.number n ∈ ps) => partsOf_num hps hm)
 have HAL := Lib.hid (List.all_eq_true.1 hall)
 have HM := Lib.hid (Mem.start0 w)
 have HE := Lib.hid hE
 have HC := Lib.hid (show chkI s = 0 by unfold chkI; rw [hb]; rfl)
 have HV := Lib.hid (show s.v = .agg #[.int .i64 s.kind, .int .i64 s.member, .int .i64 s.number, .int .i64 s.index, .bool s.is, .string (bs s.text), .string (bs s.token), .int .i64 s.e.kind, .int .i64 s.e.member, .int .i64 s.e.number, .string (bs s.e.text)] from rfl)
 rw [HV.out]
 clear hE hb hps hall hkk hkd hbod hpl
 go_enter Tryz.func92, Tryz.ntmps92
 have fM := HM.out.fa
 go_wp2_with fail
 all_goals clear fM
 obtain ⟨ks, hks⟩ : ∃ k, w.heap.size = k := ⟨_, rfl⟩
 refine nxt HM fun w1 M => ?_
 clear HM; have HM := M; clear M
 rw [hks] at HM ⊢
 clear hks
 rw [← HV.out]
 refine (check_any W w1 hT (HE.out.ext HM.out.extTo) s hs HKD.out.2.2).mono ?_
 rintro e w2 ⟨rfl, hE2⟩
 rw [HC.out]
 replace HM := Lib.hid (HM.out.ext hE2)
 clear hE2
 rw [HV.out]
 have fM := HM.out.fa
 go_wp2_with fail
 all_goals clear fM
 refine nxt HM fun w2 M => ?_
 clear HM; have HM := M; clear M
 refine (writer_new w2).mono ?_
 rintro e w3 ⟨wb, rfl, hU⟩
 obtain ⟨F2, u1, u2, u3⟩ := hU
 replace HM := Lib.hid (HM.out.new (G := F2) u2 u1 (fun k hk => (u3 k hk).elim (fun h => (noB _ h).elim) id))
 clear u1 u2 u3 F2
 have fM := HM.out.fa
 go_wp2_with fail
 all_goals clear fM
 obtain ⟨q, hq⟩ : ∃ q, w3.heap.size = q := ⟨_, rfl⟩
 refine nxt HM fun w4 M => ?_
 clear HM; have HM := M; clear M
 rw [hq] at HM ⊢
 clear hq
 obtain ⟨C, hC, hn, hbx, hS⟩ := HM.out.apart1 (r := writerR wb []) (b := q) (cs := [.int .i64 s.kind]) (by with_reducible repeat first | exact ph | apply pt) (by with_reducible repeat first | exact ph | apply pt)
 rw [HKD.out.1] at hbx
 refine (wnumber_any w4 wb q [] [kd] (by simp) (by simp) hbx hn (by have := HKD.out.2.1; unfold topN; simp; omega) hC).mono ?_
 rintro e w5 ⟨rfl, hU⟩
 rw [numsL_one, List.nil_append] at hU
 replace HM := Lib.hid (hS _ _ hU)
 clear hC hn hbx hS hU C
 have fM := HM.out.fa
 go_wp2_with fail
 all_goals clear fM
 refine nxt HM fun w6 M => ?_
 clear HM; have HM := M; clear M
 have fM := HM.out.fa
 have hE0 : Keeps NoB w6 w6.drew := (Keeps.refl _ _).drew
 refine wp_region_plan [(0, 1), (1, 2), (0, 5), (2, 0)] [2] [0, 3, 4] [3, 4] (ClsE w6) (by kernel_rfl) (by kernel_rfl) (by kernel_rfl) rfl rfl (ClsE.of hE0) (fun _ _ _ d _ h => by cases d <;> exact h) ?_; simp only [planL, nL]
 refine pR rfl (fun W => by go_simp <;> with_reducible rfl) ?_; simp only [nP]
 refine pL rfl (fun W => by go_simp <;> with_reducible rfl) ?_; simp only [nP]
 refine pM _ rfl rfl ?_; simp only [nP, Act.eval]
 refine plan_does rfl (fun K hK => ?_)
 go_wp2_with fail
 refine (kinds_any _).mono ?_
 rintro e w7 ⟨m, rfl, hU⟩
 obtain ⟨F2, u1, u2, u3⟩ := hU
 have hE2 := hE0.ext u2
 obtain ⟨v, hlk, hpv⟩ := kinds_look u1 s.kind HKD.out.2.2 false
 replace HM := Lib.hid (HM.out.new (r := partsR v ((partsOf s.kind).getD [])) (G := F2) hE2 hpv (fun k hk => (u3 k hk).elim (fun h => (noB _ h).elim) id))
 simp only [Bool.false_eq_true, if_false] at hlk
 rw [HPS.out] at HM
 obtain ⟨a, rfl⟩ := (HM.out.fact fun A h => parts_len h)
 clear u1 u2 u3 hpv
 clear F2
 refine hK _ _ ⟨ClsE.of (by assumption), ?_⟩; clear hK K; try simp only [nP]
 refine plan_nil ?_; simp only [tailL, List.filterMap_cons, List.filterMap_nil, nL]; change wpList _ _ _ (_ :: _ :: []) _ _
 have fM := HM.out.fa
 go_wp2_with fail
 all_goals clear fM
 clear hlk hE2 hE0
 clear fM
 have hs0 : Mem NoB w w7 [writerR wb (numL kd ++ ((ps.take 0).map fun p => p.lay s).flatten), cellsR ks 37 s.cells, partsR (.slice a ps.length ps.length) ps] := by
  rw [List.take_zero, List.map_nil, List.flatten_nil, List.append_nil]
  exact Mem.sub HM.out sb
 replace HM := Lib.hid hs0
 clear hs0
 go_loopw [24] (fun i wr => ∃ j : Nat, j ≤ ps.length ∧ i = .int .i64 j ∧ Hid ((((ps.take j).map fun p => p.lay s).flatten).length ≤ j * 300) ∧ Hid (Mem NoB w wr [writerR wb (numL kd ++ ((ps.take j).map fun p => p.lay s).flatten), cellsR ks 37 s.cells, partsR (.slice a ps.length ps.length) ps])) (fun i _ => ps.length - (intOf i).toNat)
 case atStart => exact ⟨0, Nat.zero_le _, rfl, Lib.hid (by simp), HM⟩
 case round =>
  clear HM
  obtain ⟨j, hj, rfl, HLE, HM⟩ := hrel
  have hpl := HPL.out
  by_cases hlt : j < ps.length
  · have g1 : (j : Int) < ps.length := by omega
    have g2 : ¬ (j : Int) < 0 := by omega
    obtain ⟨Ahp, hp⟩ := HM.out.get (r := partsR (.slice a ps.length ps.length) ps) pk
    obtain ⟨k, -, hat⟩ := parts_at' hp
    obtain ⟨qq, rfl, hq, c0, c1, c2, c3⟩ := hat j hlt
    have HIN := Lib.hid (List.getElem_mem hlt)
    have HF := Lib.hid (show (((ps.take (j + 1)).map fun p => p.lay s).flatten) = ((ps.take j).map fun p => p.lay s).flatten ++ ps[j].lay s by rw [List.take_succ_eq_append_getElem hlt, List.map_append, List.flatten_append]; simp)
    obtain ⟨p, hpj⟩ : ∃ p, ps[j] = p := ⟨_, rfl⟩
    rw [hpj] at c0 c1 c2 c3 HF HIN
    obtain ⟨l, hl⟩ : ∃ l, ((ps.take j).map fun p => p.lay s).flatten = l := ⟨_, rfl⟩
    rw [hl] at HF HM HLE
    have hen := lay_enters p
    clear hp hat hpj hl
    unfold Sd.cells at HM
    have fM := HM.out.fa
    go_wp2_with fail
    all_goals clear fM
    refine nxt HM fun w8 M => ?_
    clear HM; have HM := M; clear M
    rw [← HV.out]
    obtain ⟨C, hC, hS⟩ := (HM.out.pick (r := writerR wb (numL kd ++ l)) pk).step
    have hll := numL_len kd
    refine (lay_any w8 wb (numL kd ++ l) p s (by rw [List.length_append]; have := HLE.out; omega) (HAL.out p HIN.out) (fun n hn => HNU.out n (by rw [← hn]; exact HIN.out)) hC).mono ?_
    rintro e w9 ⟨rfl, hU⟩
    rw [HV.out]
    replace HM := Lib.hid (hS _ _ hU)
    clear hU hS hC C hen c0 c1 c2 c3 hll
    go_wp2_with fail
    go_roundw
    case rel =>
     refine ⟨j + 1, by omega, by go_num, Lib.hid ?_, Lib.hid ?_⟩
     · have := Part.lay_len p s (HAL.out p HIN.out)
       rw [HF.out, List.length_append]; have := HLE.out; omega
     · rw [HF.out, ← List.append_assoc]
       exact Mem.sub HM.out sb
    case measure => simp [intOf]; omega
  · obtain rfl : j = ps.length := by omega
    rw [List.take_length] at HM HLE
    rw [← HBO.out] at HM
    have HBL := Lib.hid (show (bodyL s).length ≤ 1000 by rw [HBO.out, List.length_append]; have := HLE.out; have := numL_len kd; omega)
    go_wp2_with fail
    obtain ⟨Ahwb, hwb⟩ := HM.out.get (r := writerR wb (bodyL s)) pk
    refine (wall_any wr wb (bodyL s) (by have := HBL.out; omega) hwb).mono ?_
    rintro e w8 ⟨v1, rfl, hw1, hE8⟩
    have hb1 := hw1.bytes
    replace HM := Lib.hid (HM.out.ext hE8)
    clear hwb
    go_wp2_with fail
    refine (frame_any w8 v1 (bodyL s) hb1 (fun k hk => hk.2) (by have := HBL.out; omega)).mono ?_
    rintro e w9 ⟨v2, rfl, hU⟩
    obtain ⟨F2, u1, u2, u3⟩ := hU
    replace HM := Lib.hid (HM.out.new (G := F2) u2 u1 (fun k hk => (u3 k hk).elim (fun h => (noB _ h).elim) id))
    clear u1 u2 u3 hb1 hw1 hE8
    clear F2
    go_wp2_with fail
    go_ret2
    exact ⟨_, rfl, (HM.out.pick (r := bytR v2 (frameL (bodyL s))) pk).upd⟩
end
section
theorem results_cell2 {fn : Func} {r q : Nat} {ty tz : TypeId} (hr : fn.results = #[.cell r ty, .cell q tz]) (t t' : Array Value) (h : t.getD r undef = t'.getD r undef) (h2 : t.getD q undef = t'.getD q undef) : results fn t = results fn t' := by
 unfold results
 rw [hr]
 simp only [List.mapM_toArray, List.mapM_cons, List.mapM_nil, h, h2]
theorem put_results2 {P : Program} {fn : Func} (r q : Nat) (hr : ∀ t t' : Array Value, t.getD r undef = t'.getD r undef → t.getD q undef = t'.getD q undef → results fn t = results fn t') {l : List Oper} (hl : (l.all fun o => o.dst != some r) = true) (hl2 : (l.all fun o => o.dst != some q) = true) {R : Ending → World → Prop} :
 ∀ c a w (o : Oper) v, o ∈ l → bodyPostD P fn R (.panic c) (Act.put a o.dst v) w → bodyPostD P fn R (.panic c) a w := by
 intro c a w o v ho h
 have hne := List.all_eq_true.1 hl o ho
 have hne2 := List.all_eq_true.1 hl2 o ho
 cases hd : o.dst with
 | none => rw [hd] at h; exact h
 | some d =>
   rw [hd] at h hne hne2
   have hdr : d ≠ r := by simpa using hne
   have hdq : d ≠ q := by simpa using hne2
   have h' : Leaves P fn (a.tmps.set! d v) R a.defers (.panicking c) w := h
   rw [leaves_congr (t' := a.tmps) (hr _ _ (by simp [Array.getD_eq_getD_getElem?, Array.getElem?_setIfInBounds, hdr]) (by simp [Array.getD_eq_getD_getElem?, Array.getElem?_setIfInBounds, hdq]))] at h'
   exact h'
theorem assert_errno (w : World) (n : Int) : (Instr.typeAssert (.iface 24 (.int .i64 n)) 20 24 false).run Tryz.prog w = .ok (.int .i64 n) w := by kernel_rfl
theorem parse1_none (w : World) (ks ke : Nat) :
 CallsD Tryz.prog 231 #[.pointer (some ⟨ks, 0, none⟩), .pointer (some ⟨ke, 0, none⟩)] .returning w fun e u' w' => e = .returned (.tuple #[]) ∧ u' = .returning ∧ w' = w := by
 refine callsD_of_wpS Tryz.func231 rfl fun c₀ cs hu => ?_
 simp only [Tryz.ntmps231, List.size_toArray, List.length_cons, List.length_nil, Nat.reduceAdd, Nat.reduceSub, Array.replicate_succ, Array.replicate_zero, List.push_toArray, List.append_toArray, List.nil_append, List.cons_append]
 apply wpS_seq
 apply wpS_region
 simp [wpOpsS, go_sem, recoverD, hu, Exit.thenS]
 refine wpS_of_wp ?_
 go_wp2_with fail
 cases c₀
 simp_all [bodyPostS, results, Tryz.results231]
theorem parse1_said {A : Nat → Prop} (w : World) (ks ke : Nat) (s : Sd) (z : Int) (older : List PanicEntry) (h : SepL [cellsR ks 37 s.cells, cellsR ke 24 [.int .i64 z]] A w) :
 CallsD Tryz.prog 231 #[.pointer (some ⟨ks, 0, none⟩), .pointer (some ⟨ke, 0, none⟩)] (.panicking ({ v := .iface 24 (.int .i64 340), recovered := false } :: older)) w fun e u' w' =>
  e = .returned (.tuple #[]) ∧ u' = .panicking ({ v := .iface 24 (.int .i64 340), recovered := true } :: older) ∧ Upd A w w' (listR [cellsR ks 37 (Sd.of 0).cells, cellsR ke 24 [.int .i64 340]]) := by
 have HM := Lib.hid (Mem.start (F := A) (r := listR [cellsR ks 37 s.cells, cellsR ke 24 [.int .i64 z]]) h).unlist
 simp only [List.cons_append, List.nil_append] at HM
 unfold Sd.cells at HM
 clear h
 refine callsD_of_wpS Tryz.func231 rfl fun c₀ cs hu => ?_
 simp only [Tryz.ntmps231, List.size_toArray, List.length_cons, List.length_nil, Nat.reduceAdd, Nat.reduceSub, Array.replicate_succ, Array.replicate_zero, List.push_toArray, List.append_toArray, List.nil_append, List.cons_append]
 apply wpS_seq
 apply wpS_region
 simp [wpOpsS, go_sem, recoverD, hu, Exit.thenS]
 refine wpS_of_wp ?_
 have ha := fun w => assert_errno w 340
 have fM := HM.out.fa
 go_wp2_with fail
 all_goals clear fM
 have fM := HM.out.fa
 have hE0 : Keeps NoB w w.drew := (Keeps.refl _ _).drew
 refine wp_region_plan [(0, 0), (0, 1), (0, 2)] [] [3, 4] [3, 4] (ClsE w) (by kernel_rfl) (by kernel_rfl) (by kernel_rfl) rfl rfl (ClsE.of hE0) (fun _ _ _ d _ h => by cases d <;> exact h) ?_; simp only [planL, nL]
 iterate 3 (first | (refine pM _ rfl rfl ?_; simp only [nP, nE]) | (refine pR (by rfl) (fun W => by go_simp <;> with_reducible rfl) ?_; simp only [nP]))
 refine plan_nil ?_; simp only [tailL, List.filterMap_cons, List.filterMap_nil, nL]; change wpList _ _ _ (_ :: _ :: []) _ _
 clear hE0
 go_wp2_with fail
 clear fM
 refine ⟨rfl, _, rfl, .tuple #[], ?_, rfl, rfl, ?_⟩
 · simp [results, Tryz.results231]
 refine nxt HM fun w1 M => ?_
 clear HM; have HM := M; clear M
 have hm : Mem A w w1 [cellsR ke 24 [.int .i64 340], cellsR ks 37 (Sd.of 0).cells] := HM.out
 exact (Mem.list' (L1 := [cellsR ks 37 (Sd.of 0).cells, cellsR ke 24 [.int .i64 340]]) (L := []) (Mem.sub hm (by repeat first | exact Sub.nil | refine Sub.cons (by with_reducible repeat first | exact ph | apply pt) ?_))).upd
theorem Part.take_ok (p : Part) (r : Rdr) (s : Sd) (h : OkS s) : OkS (p.take r s).2 ∧ (p.take r s).2.kind = s.kind := by
 obtain ⟨h1, h2, h3, h4⟩ := h
 cases p <;> unfold Part.take
 · exact ⟨⟨h1, h2, h3, h4⟩, rfl⟩
 · exact ⟨⟨h1, h2, h3, h4⟩, rfl⟩
 · exact ⟨⟨h1, h2, h3, h4⟩, rfl⟩
 · exact ⟨⟨h1, h2, h3, h4⟩, rfl⟩
 · have := r.txt_lt 200 (by decide)
   exact ⟨⟨h1, by dsimp only; omega, h3, h4⟩, rfl⟩
 · have := r.txt_lt 200 (by decide)
   exact ⟨⟨h1, h2, by dsimp only; omega, h4⟩, rfl⟩
 · dsimp only
   have hk := r.num_lt 4 (by decide)
   have ht := (((r.num 4).1.num 15).1.num 2147483647).1.txt_lt 200 (by decide)
   have hI : I64 ((r.num 4).2.1 : Int) := by unfold I64; constructor <;> omega
   split
   · exact ⟨⟨hI, h2, h3, by dsimp only; omega⟩, rfl⟩
   · exact ⟨⟨hI, h2, h3, h4⟩, rfl⟩
theorem takeAll_snoc (ps : List Part) (r : Rdr) (s : Sd) (j : Nat) (h : j < ps.length) : takeAll (ps.take (j + 1)) r s = ps[j].take (takeAll (ps.take j) r s).1 (takeAll (ps.take j) r s).2 := by
 unfold takeAll
 rw [List.take_succ_eq_append_getElem h, List.foldl_append]; rfl
theorem takeAll_app (ps qs : List Part) (r : Rdr) (s : Sd) : takeAll (ps ++ qs) r s = takeAll qs (takeAll ps r s).1 (takeAll ps r s).2 := by
 unfold takeAll
 rw [List.foldl_append]
theorem takeAll_bad (ps : List Part) (r : Rdr) (s : Sd) (j : Nat) (h : (takeAll (ps.take j) r s).1.e ≠ 0) : (takeAll ps r s).1.e ≠ 0 := by
 have := takeAll_app (ps.take j) (ps.drop j) r s
 rw [List.take_append_drop] at this
 rw [this]
 exact takeAll_sticky _ _ h
theorem parse_any {A : Nat → Prop} (W w : World) (hT : Tabs W) (hE : Ext W w) (v : Value) (l : List UInt8) (h : Bytes w A v l) (hl : l.length ≤ 70368744177664) :
 Calls Tryz.prog 195 #[v] w fun e w' => e = .returned (.tuple #[(parseL l).1.v, .int .i64 (parseL l).2]) ∧ Ext w w' := by
 have HM := Lib.hid (Mem.start0 w)
 have HE := Lib.hid hE
 have HB := Lib.hid h
 have HLL := Lib.hid hl
 have hmf : ∀ (fn : Fn) (first cap : Array Value) (w : World), (Instr.makeFunc fn first cap).run Tryz.prog w = .ok (.func fn first cap) w := fun _ _ _ _ => rfl
 obtain ⟨P, hP⟩ : ∃ P, parseL l = P := ⟨_, rfl⟩
 rw [hP]
 have HPL := Lib.hid hP
 clear hE h hl hP
 go_enter_defers Tryz.func195, Tryz.ntmps195
 have fM := HM.out.fa
 go_wp2_with fail
 all_goals clear fM
 refine nxt HM fun w1 M => ?_
 clear HM; have HM := M; clear M
 obtain ⟨ks, hks⟩ : ∃ k, w.heap.size = k := ⟨_, rfl⟩
 obtain ⟨ke, hke⟩ : ∃ k, w.heap.size + 1 = k := ⟨_, rfl⟩
 rw [hke, hks] at HM ⊢
 clear hke hks
 have hm0 : Mem NoB w w1 [cellsR ke 24 [.int .i64 0], cellsR ks 37 (Sd.of 0).cells] := HM.out
 replace HM := Lib.hid hm0
 clear hm0
 refine (read_any w1 v l (HB.out.keeps HM.out.extTo fun _ _ => noB _) HLL.out).mono ?_
 rintro e w2 ⟨b, rfl, hU⟩
 obtain ⟨F2, u1, u2, u3⟩ := hU
 replace HM := Lib.hid (HM.out.new (r := readerR b ⟨l, 0⟩) (G := F2) u2 u1 (fun k hk => (u3 k hk).elim (fun h => (noB _ h).elim) id))
 clear u1 u2 u3
 clear F2
 have fM := HM.out.fa
 go_wp2_with fail
 all_goals clear fM
 refine nxt HM fun w3 M => ?_
 clear HM; have HM := M; clear M
 obtain ⟨kq, hkq⟩ : ∃ k, w2.heap.size = k := ⟨_, rfl⟩
 rw [hkq] at HM ⊢
 clear hkq
 have hno := (⟨l, 0⟩ : Rdr).num_e' 12 (by decide)
 have hnl := (⟨l, 0⟩ : Rdr).num_len 12
 have hnt := (⟨l, 0⟩ : Rdr).num_lt 12 (by decide)
 obtain ⟨C, hC, hS⟩ := (HM.out.pick (r := readerR b ⟨l, 0⟩) pk).step
 refine (fnum_any w3 b ⟨l, 0⟩ 12 (by decide) HLL.out hC).mono ?_
 rintro e w4 ⟨rfl, hU⟩
 replace HM := Lib.hid (hS _ _ hU)
 clear hU hS hC C
 have HPQ := Lib.hid (show P = (let x := takeAll ((partsOf ((⟨l, 0⟩ : Rdr).num 12).2.1).getD []) ((⟨l, 0⟩ : Rdr).num 12).1 (Sd.of ((⟨l, 0⟩ : Rdr).num 12).2.1)
  if ((⟨l, 0⟩ : Rdr).num 12).2.2 = 0 ∧ x.1.e = 0 ∧ x.1.b = [] ∧ sdB x.2 = true then (x.2, 0) else (Sd.of 0, 340)) from HPL.out.symm)
 obtain ⟨⟨r1, n, no⟩, hq⟩ : ∃ q, (⟨l, 0⟩ : Rdr).num 12 = q := ⟨_, rfl⟩
 rw [hq] at HM HPQ hno hnl hnt ⊢
 dsimp only at HM HPQ hno hnl hnt ⊢
 subst hno
 clear hq HPL
 have HNL := Lib.hid (show r1.b.length ≤ 70368744177664 from Nat.le_trans hnl HLL.out)
 clear hnl
 by_cases he : r1.e = 0
 case neg =>
  have HQ := Lib.hid (show P = (Sd.of 0, 340) by rw [HPQ.out, if_neg (fun h => he h.1)])
  rw [if_neg he]
  unfold saidE
  clear he HPQ hnt
  replace HM := Lib.hid (Mem.list' (L1 := [cellsR ks 37 (Sd.of 0).cells, cellsR ke 24 [.int .i64 0]]) (L := [readerR b r1]) (Mem.sub HM.out (by repeat first | exact Sub.nil | refine Sub.cons (by with_reducible repeat first | exact ph | apply pt) ?_)))
  obtain ⟨Bc, hBc, hSc⟩ := HM.out.step
  refine leaves_cons (f := 231) (args := #[.pointer (some ⟨ks, 0, none⟩), .pointer (some ⟨ke, 0, none⟩)]) (by intro h; cases h) (enters_of Tryz.func231 (by kernel_rfl) rfl _ _) ?_
  refine (parse1_said _ ks ke _ 0 [] hBc).mono ?_
  rintro e u wq ⟨rfl, rfl, hUc⟩
  replace HM := Lib.hid (hSc _ _ hUc).unlist
  simp only [List.cons_append, List.nil_append] at HM
  show Leaves _ _ _ _ [] .returning _
  clear hUc hSc hBc Bc
  obtain ⟨Ahb, hb⟩ := HM.out.get (r := cellsR ks 37 (Sd.of 0).cells) pk
  obtain ⟨Ahe, he⟩ := HM.out.get (r := cellsR ke 24 [.int .i64 340]) pk
  have hb1 : Box wq ks 37 [.int .i64 0, .int .i64 0, .int .i64 0, .int .i64 0, .bool false, .string ⟨#[]⟩, .string ⟨#[]⟩, .int .i64 0, .int .i64 0, .int .i64 0, .string ⟨#[]⟩] := hb.2
  have hc := hb1.reads.1
  have hd := he.2.reads.1
  refine ⟨.tuple #[.agg #[.int .i64 0, .int .i64 0, .int .i64 0, .int .i64 0, .bool false, .string ⟨#[]⟩, .string ⟨#[]⟩, .int .i64 0, .int .i64 0, .int .i64 0, .string ⟨#[]⟩], .int .i64 340], ?_, ?_, HM.out.extTo⟩
  · simp [results, Tryz.results195, go_sem, hc, hd]
  · rw [HQ.out]; rfl
 rw [if_pos he]
 have HE1 := Lib.hid he
 clear he
 have fM := HM.out.fa
 go_wp2_with fail
 all_goals clear fM
 refine nxt HM fun w5 M => ?_
 clear HM; have HM := M; clear M
 have hni : I64 (n : Int) := by unfold I64; constructor <;> omega
 have HNI := Lib.hid hni
 have HNT := Lib.hid hnt
 clear hni hnt
 have fM := HM.out.fa
 have hE0 : Keeps NoB w5 w5.drew := (Keeps.refl _ _).drew
 refine wp_region_planD [(0, 1), (1, 2), (0, 5), (2, 0)] [2] [0, 3, 4] [3, 4] (ClsE w5) (by kernel_rfl) (by kernel_rfl) (by kernel_rfl) rfl rfl (ClsE.of hE0) (put_results2 2 3 (results_cell2 Tryz.results195) (by kernel_rfl) (by kernel_rfl)) ?_; simp only [planL, nL]
 refine pR rfl (fun W => by go_simp <;> with_reducible rfl) ?_; simp only [nP]
 refine pL rfl (fun W => by go_simp <;> with_reducible rfl) ?_; simp only [nP]
 refine pM _ rfl rfl ?_; simp only [nP, Act.eval]
 refine plan_does rfl (fun K hK => ?_)
 go_wp2_with fail
 refine (kinds_any _).mono ?_
 rintro e w6 ⟨m, rfl, hU⟩
 obtain ⟨F2, u1, u2, u3⟩ := hU
 have hE2 := hE0.ext u2
 obtain ⟨pv, hlk, hpv⟩ := kinds_look u1 (n : Int) HNI.out false
 replace HM := Lib.hid (HM.out.new (r := partsR pv ((partsOf (n : Int)).getD [])) (G := F2) hE2 hpv (fun k hk => (u3 k hk).elim (fun h => (noB _ h).elim) id))
 simp only [Bool.false_eq_true, if_false] at hlk
 clear u1 u2 u3 hpv
 clear F2
 refine hK _ _ ⟨ClsE.of (by assumption), ?_⟩; clear hK K; try simp only [nP]
 refine plan_nil ?_; simp only [tailL, List.filterMap_cons, List.filterMap_nil, nL]; change wpList _ _ _ (_ :: _ :: []) _ _
 clear fM
 have hpl := partsOf_len (n : Int)
 obtain ⟨ps, hps⟩ : ∃ ps, (partsOf (n : Int)).getD [] = ps := ⟨_, rfl⟩
 rw [hps] at HM HPQ hpl
 clear hps
 obtain ⟨Ahp, hp⟩ := HM.out.get (r := partsR pv ps) pk
 obtain ⟨a, rfl⟩ := parts_len hp
 clear hE0 hE2 hp
 have fM := HM.out.fa
 go_wp2_with fail
 all_goals clear fM
 clear hlk
 obtain ⟨s0, hs⟩ : ∃ s, Sd.of (n : Int) = s := ⟨_, rfl⟩
 have hsk : s0.kind = n := by rw [← hs]; rfl
 have hso : OkS s0 := by rw [← hs]; exact ⟨i64_lit 0 rfl, Nat.zero_le _, Nat.zero_le _, Nat.zero_le _⟩
 have hm0 : Mem NoB w w6 [partsR (.slice a ps.length ps.length) ps, cellsR ks 37 (Sd.of (n : Int)).cells, readerR b r1, cellsR kq 311 [.pointer (some ⟨b, 0, none⟩)], cellsR ke 24 [.int .i64 0]] := HM.out
 rw [hs] at hm0 HPQ
 replace HM := Lib.hid hm0
 clear hm0 hs
 go_loopw [19] (fun i wr => ∃ j : Nat, j ≤ ps.length ∧ i = .int .i64 j ∧ ∃ rj sj, Hid (takeAll (ps.take j) r1 s0 = (rj, sj) ∧ OkS sj ∧ sj.kind = n) ∧ Hid (rj.e = 0) ∧ Hid (rj.b.length ≤ 70368744177664) ∧ Hid (Mem NoB w wr [partsR (.slice a ps.length ps.length) ps, cellsR ks 37 sj.cells, readerR b rj, cellsR kq 311 [.pointer (some ⟨b, 0, none⟩)], cellsR ke 24 [.int .i64 0]])) (fun i _ => ps.length - (intOf i).toNat)
 case atStart => exact ⟨0, Nat.zero_le _, rfl, r1, s0, Lib.hid ⟨rfl, hso, hsk⟩, HE1, HNL, HM⟩
 case round =>
  clear HM
  obtain ⟨j, hj, rfl, rj, sj, HT, HEJ, HLJ, HM⟩ := hrel
  by_cases hlt : j < ps.length
  · have g1 : (j : Int) < ps.length := by omega
    have g2 : ¬ (j : Int) < 0 := by omega
    obtain ⟨Ahp, hp⟩ := HM.out.get (r := partsR (.slice a ps.length ps.length) ps) pk
    obtain ⟨k, -, hat⟩ := parts_at' hp
    obtain ⟨q, rfl, hq, c0, c1, c2, c3⟩ := hat j hlt
    have HF := Lib.hid (takeAll_snoc ps r1 s0 j hlt)
    obtain ⟨p, hpj⟩ : ∃ p, ps[j] = p := ⟨_, rfl⟩
    rw [hpj] at c0 c1 c2 c3 HF
    rw [HT.out.1] at HF
    dsimp only at HF
    have hen := take_enters p
    clear hp hat hpj
    have fM := HM.out.fa
    go_wp2_with fail
    all_goals clear fM
    refine nxt HM fun w8 M => ?_
    clear HM; have HM := M; clear M
    clear c0 c1 c2 c3 hen
    obtain ⟨C, hC, hS⟩ := (Mem.list' (L1 := [readerR b rj, cellsR ks 37 sj.cells]) (L := [partsR (.slice (some ⟨q, 0, none⟩) ps.length ps.length) ps, cellsR kq 311 [.pointer (some ⟨b, 0, none⟩)], cellsR ke 24 [.int .i64 0]]) (Mem.sub HM.out (by repeat first | exact Sub.nil | refine Sub.cons (by with_reducible repeat first | exact ph | apply pt) ?_))).step
    refine (ptake_any w8 b ks p rj sj HLJ.out hC).mono ?_
    rintro e w9 ⟨rfl, s', hs', hU⟩
    replace HM := Lib.hid (hS _ _ hU).unlist
    simp only [List.cons_append, List.nil_append] at HM
    clear hU hS hC C
    by_cases he : (p.take rj sj).1.e = 0
    case neg =>
     have HQ := Lib.hid (show P = (Sd.of 0, 340) by rw [HPQ.out, if_neg (fun h => absurd h.2.1 (takeAll_bad ps r1 s0 (j + 1) (by rw [HF.out]; exact he)))])
     rw [if_neg he]
     unfold saidE
     clear he hs'
     replace HM := Lib.hid (Mem.list' (L1 := [cellsR ks 37 s'.cells, cellsR ke 24 [.int .i64 0]]) (L := []) (Mem.sub HM.out (by repeat first | exact Sub.nil | refine Sub.cons (by with_reducible repeat first | exact ph | apply pt) ?_)))
     obtain ⟨Bc, hBc, hSc⟩ := HM.out.step
     refine leaves_cons (f := 231) (args := #[.pointer (some ⟨ks, 0, none⟩), .pointer (some ⟨ke, 0, none⟩)]) (by intro h; cases h) (enters_of Tryz.func231 (by kernel_rfl) rfl _ _) ?_
     refine (parse1_said _ ks ke _ 0 [] hBc).mono ?_
     rintro e u wq ⟨rfl, rfl, hUc⟩
     replace HM := Lib.hid (hSc _ _ hUc).unlist
     simp only [List.cons_append, List.nil_append] at HM
     show Leaves _ _ _ _ [] .returning _
     clear hUc hSc hBc Bc
     obtain ⟨Ahb, hb⟩ := HM.out.get (r := cellsR ks 37 (Sd.of 0).cells) pk
     obtain ⟨Ahe, he⟩ := HM.out.get (r := cellsR ke 24 [.int .i64 340]) pk
     have hb1 : Box wq ks 37 [.int .i64 0, .int .i64 0, .int .i64 0, .int .i64 0, .bool false, .string ⟨#[]⟩, .string ⟨#[]⟩, .int .i64 0, .int .i64 0, .int .i64 0, .string ⟨#[]⟩] := hb.2
     have hc := hb1.reads.1
     have hd := he.2.reads.1
     refine ⟨.tuple #[.agg #[.int .i64 0, .int .i64 0, .int .i64 0, .int .i64 0, .bool false, .string ⟨#[]⟩, .string ⟨#[]⟩, .int .i64 0, .int .i64 0, .int .i64 0, .string ⟨#[]⟩], .int .i64 340], ?_, ?_, HM.out.extTo⟩
     · simp [results, Tryz.results195, go_sem, hc, hd]
     · rw [HQ.out]; rfl
    obtain rfl := hs' he
    rw [if_pos he]
    have HE2 := Lib.hid he
    clear he hs'
    go_wp2_with fail
    go_roundw
    case rel => exact ⟨j + 1, by omega, by go_num, (p.take rj sj).1, (p.take rj sj).2, Lib.hid ⟨HF.out, (p.take_ok rj sj HT.out.2.1).1, (p.take_ok rj sj HT.out.2.1).2.trans HT.out.2.2⟩, HE2, Lib.hid (Nat.le_trans (p.take_len rj sj) HLJ.out), Lib.hid (Mem.sub HM.out sb)⟩
    case measure => simp [intOf]; omega
  · obtain rfl : j = ps.length := by omega
    rw [List.take_length] at HT
    have fM := HM.out.fa
    go_wp2_with fail
    all_goals clear fM
    refine nxt HM fun w8 M => ?_
    clear HM; have HM := M; clear M
    have HK := Lib.hid (show I64 sj.kind by rw [HT.out.2.2]; exact HNI.out)
    obtain ⟨C, hC, hS⟩ := (HM.out.pick (r := readerR b rj) pk).step
    refine (rend_any w8 b rj HLJ.out hC).mono ?_
    rintro e w9 ⟨rfl, hU⟩
    replace HM := Lib.hid (hS _ _ hU)
    clear hU hS hC C
    by_cases hb : rj.b = []
    case neg =>
     have HQ := Lib.hid (show P = (Sd.of 0, 340) by rw [HPQ.out, HT.out.1, if_neg (fun h => hb h.2.2.1)])
     have hf : rj.fin = (Rdr.bad, 120) := by unfold Rdr.fin; rw [if_neg (fun h => h HEJ.out), if_neg hb]
     rw [hf] at HM ⊢
     dsimp only at HM ⊢
     clear hf hb
     have fM := HM.out.fa
     go_wp2_with fail
     all_goals clear fM
     refine (fmust_any _ _).mono ?_
     rintro e w' ⟨rfl, hwq⟩
     rw [hwq]
     clear hwq w'
     simp only [Bool.false_eq_true, if_false]
     unfold saidE
     replace HM := Lib.hid (Mem.list' (L1 := [cellsR ks 37 sj.cells, cellsR ke 24 [.int .i64 0]]) (L := []) (Mem.sub HM.out (by repeat first | exact Sub.nil | refine Sub.cons (by with_reducible repeat first | exact ph | apply pt) ?_)))
     obtain ⟨Bc, hBc, hSc⟩ := HM.out.step
     refine leaves_cons (f := 231) (args := #[.pointer (some ⟨ks, 0, none⟩), .pointer (some ⟨ke, 0, none⟩)]) (by intro h; cases h) (enters_of Tryz.func231 (by kernel_rfl) rfl _ _) ?_
     refine (parse1_said _ ks ke _ 0 [] hBc).mono ?_
     rintro e u wq ⟨rfl, rfl, hUc⟩
     replace HM := Lib.hid (hSc _ _ hUc).unlist
     simp only [List.cons_append, List.nil_append] at HM
     show Leaves _ _ _ _ [] .returning _
     clear hUc hSc hBc Bc
     obtain ⟨Ahb, hb⟩ := HM.out.get (r := cellsR ks 37 (Sd.of 0).cells) pk
     obtain ⟨Ahe, he⟩ := HM.out.get (r := cellsR ke 24 [.int .i64 340]) pk
     have hb1 : Box wq ks 37 [.int .i64 0, .int .i64 0, .int .i64 0, .int .i64 0, .bool false, .string ⟨#[]⟩, .string ⟨#[]⟩, .int .i64 0, .int .i64 0, .int .i64 0, .string ⟨#[]⟩] := hb.2
     have hc := hb1.reads.1
     have hd := he.2.reads.1
     refine ⟨.tuple #[.agg #[.int .i64 0, .int .i64 0, .int .i64 0, .int .i64 0, .bool false, .string ⟨#[]⟩, .string ⟨#[]⟩, .int .i64 0, .int .i64 0, .int .i64 0, .string ⟨#[]⟩], .int .i64 340], ?_, ?_, HM.out.extTo⟩
     · simp [results, Tryz.results195, go_sem, hc, hd]
     · rw [HQ.out]; rfl
    have HBE := Lib.hid hb
    have hf : rj.fin = (rj, 0) := by unfold Rdr.fin; rw [if_neg (fun h => h HEJ.out), if_pos hb]
    rw [hf] at HM ⊢
    dsimp only at HM ⊢
    clear hf hb
    have fM := HM.out.fa
    go_wp2_with fail
    all_goals clear fM
    refine (check_any W w9 hT (HE.out.ext HM.out.extTo) sj HT.out.2.1 HK.out).mono ?_
    rintro e w10 ⟨rfl, hE2⟩
    replace HM := Lib.hid (HM.out.ext hE2)
    clear hE2
    unfold chkI
    by_cases hsb : sdB sj = true
    case neg =>
     have HQ := Lib.hid (show P = (Sd.of 0, 340) by rw [HPQ.out, HT.out.1, if_neg (fun h => hsb h.2.2.2)])
     rw [if_neg hsb]
     clear hsb
     go_wp2_with fail
     refine (fmust_any _ _).mono ?_
     rintro e w' ⟨rfl, hwq⟩
     rw [hwq]
     clear hwq w'
     simp only [Bool.false_eq_true, if_false]
     unfold saidE
     replace HM := Lib.hid (Mem.list' (L1 := [cellsR ks 37 sj.cells, cellsR ke 24 [.int .i64 0]]) (L := []) (Mem.sub HM.out (by repeat first | exact Sub.nil | refine Sub.cons (by with_reducible repeat first | exact ph | apply pt) ?_)))
     obtain ⟨Bc, hBc, hSc⟩ := HM.out.step
     refine leaves_cons (f := 231) (args := #[.pointer (some ⟨ks, 0, none⟩), .pointer (some ⟨ke, 0, none⟩)]) (by intro h; cases h) (enters_of Tryz.func231 (by kernel_rfl) rfl _ _) ?_
     refine (parse1_said _ ks ke _ 0 [] hBc).mono ?_
     rintro e u wq ⟨rfl, rfl, hUc⟩
     replace HM := Lib.hid (hSc _ _ hUc).unlist
     simp only [List.cons_append, List.nil_append] at HM
     show Leaves _ _ _ _ [] .returning _
     clear hUc hSc hBc Bc
     obtain ⟨Ahb, hb⟩ := HM.out.get (r := cellsR ks 37 (Sd.of 0).cells) pk
     obtain ⟨Ahe, he⟩ := HM.out.get (r := cellsR ke 24 [.int .i64 340]) pk
     have hb1 : Box wq ks 37 [.int .i64 0, .int .i64 0, .int .i64 0, .int .i64 0, .bool false, .string ⟨#[]⟩, .string ⟨#[]⟩, .int .i64 0, .int .i64 0, .int .i64 0, .string ⟨#[]⟩] := hb.2
     have hc := hb1.reads.1
     have hd := he.2.reads.1
     refine ⟨.tuple #[.agg #[.int .i64 0, .int .i64 0, .int .i64 0, .int .i64 0, .bool false, .string ⟨#[]⟩, .string ⟨#[]⟩, .int .i64 0, .int .i64 0, .int .i64 0, .string ⟨#[]⟩], .int .i64 340], ?_, ?_, HM.out.extTo⟩
     · simp [results, Tryz.results195, go_sem, hc, hd]
     · rw [HQ.out]; rfl
    have HQ := Lib.hid (show P = (sj, 0) by rw [HPQ.out, HT.out.1, if_pos ⟨HE1.out, HEJ.out, HBE.out, hsb⟩])
    rw [if_pos hsb]
    clear hsb
    go_wp2_with fail
    refine (fmust_any _ _).mono ?_
    rintro e w' ⟨rfl, hwq⟩
    rw [hwq]
    clear hwq w'
    simp only [if_true]
    have fM := HM.out.fa
    go_wp2_with fail
    all_goals clear fM
    refine nxt HM fun w11 M => ?_
    clear HM; have HM := M; clear M
    obtain ⟨Ahe, he⟩ := HM.out.get (r := cellsR ke 24 [.int .i64 0]) pk
    obtain ⟨Ahb, hb⟩ := HM.out.get (r := cellsR ks 37 [.int .i64 sj.kind, .int .i64 sj.member, .int .i64 sj.number, .int .i64 sj.index, .bool sj.is, .string (bs sj.text), .string (bs sj.token), .int .i64 sj.e.kind, .int .i64 sj.e.member, .int .i64 sj.e.number, .string (bs sj.e.text)]) pk
    have hc := hb.2.reads.1
    have hd := he.2.reads.1
    refine leaves_cons (f := 231) (args := #[.pointer (some ⟨ks, 0, none⟩), .pointer (some ⟨ke, 0, none⟩)]) (by intro h; cases h) (enters_of Tryz.func231 (by kernel_rfl) rfl _ _) ?_
    refine (parse1_none w11 ks ke).mono ?_
    rintro r2 u wq ⟨rfl, rfl, rfl⟩
    refine ⟨.tuple #[sj.v, .int .i64 0], ?_, ?_, HM.out.extTo⟩
    · unfold Sd.v Sd.cells
      simp [results, Tryz.results195, go_sem, hc, hd]
    · rw [HQ.out]
end
section

end
end Go.Proofs.YtoadjbgpfihoiaaGreatDoor
