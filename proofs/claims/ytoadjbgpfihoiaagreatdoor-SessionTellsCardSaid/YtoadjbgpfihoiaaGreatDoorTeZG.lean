/- Texts Does, SA, one behind the other. Conditions: as each says. -/
import Derived.Test.YtoadjbgpfihoiaaGreatDoorTeZF
set_option linter.unusedVariables false
set_option linter.unusedSimpArgs false
set_option maxHeartbeats 8000000
set_option maxRecDepth 100000
namespace Go.Proofs.YtoadjbgpfihoiaaGreatDoor
open Go.RowKit
theorem sin_int (w : World) (n a b : Int) : Calls Tryz.prog 77 #[.int .i64 n, .int .i64 a, .int .i64 b] w fun e w' => e = .returned (.bool (decide (a ≤ n ∧ n ≤ b))) ∧ w' = w := by
 by_cases h1 : a ≤ n
 · have e1 : decide (a ≤ n ∧ n ≤ b) = decide (n ≤ b) := by simp [h1]
   rw [e1]; clear e1; go_enter Tryz.func77, Tryz.ntmps77
   go_wp2_with fail; go_ret; exact ⟨rfl, rfl⟩
 · have e1 : decide (a ≤ n ∧ n ≤ b) = false := by simp [h1]
   rw [e1]; clear e1; go_enter Tryz.func77, Tryz.ntmps77
   go_wp2_with fail; go_ret; exact ⟨rfl, rfl⟩
theorem sin_i64 (w : World) (n a b : Int) : Calls Tryz.prog 78 #[.int .i64 n, .int .i64 a, .int .i64 b] w fun e w' => e = .returned (.bool (decide (a ≤ n ∧ n ≤ b))) ∧ w' = w := by
 by_cases h1 : a ≤ n
 · have e1 : decide (a ≤ n ∧ n ≤ b) = decide (n ≤ b) := by simp [h1]
   rw [e1]; clear e1; go_enter Tryz.func78, Tryz.ntmps78
   go_wp2_with fail; go_ret; exact ⟨rfl, rfl⟩
 · have e1 : decide (a ≤ n ∧ n ≤ b) = false := by simp [h1]
   rw [e1]; clear e1; go_enter Tryz.func78, Tryz.ntmps78
   go_wp2_with fail; go_ret; exact ⟨rfl, rfl⟩
theorem snone_no (w : World) (b : Nat) (a : Addr) (h : w.cell? ⟨b, 0, none⟩ = some (.pointer (some a))) : Calls Tryz.prog 84 #[.pointer (some ⟨b, 0, none⟩)] w fun e w' => e = .returned (.bool false) ∧ w' = w := by
 go_enter Tryz.func84, Tryz.ntmps84
 go_wp2
 go_ret; exact ⟨rfl, rfl⟩
structure Flt where
 f : FuncId
 first : Array Value
 cap : Array Value
 why : Int
def Flt.v (p : Flt) : Value := .func (.func p.f) p.first p.cap
def fltE : Enc Flt where
 cells p := [p.v, .int .i64 p.why]
 sz := 2
 len _ := rfl
 one p u hu := by
  rcases List.mem_cons.1 hu with rfl | hu
  · rfl
  · rw [List.mem_singleton.1 hu]; rfl
theorem infoFlt : (Tryz.prog.info? 158).map (fun i => (i.zero, i.size, i.bytes)) = some (some (.agg #[.nilFunc, .int .i64 0]), 2, 16) := by kernel_rfl
def firstF : List (Flt × Bool) → Int
 | [] => 0
 | (p, b) :: l => if b then p.why else firstF l
def noneF (l : List (Flt × Bool)) : Bool := l.all fun p => !p.2
def TellsF (w : World) (p : Flt) (b : Bool) : Prop := (∀ args w, (callFunc p.f args).run Tryz.prog w = .ok (.enter p.f args) w) ∧ ∀ w1, Ext w w1 → Calls Tryz.prog p.f (p.first ++ p.cap) w1 fun e w2 => e = .returned (.bool b) ∧ Ext w1 w2
theorem does1_any (w : World) (mb : Bool) (k f : Nat) (first cap : Array Value) (h0 : w.cell? ⟨k, 0, none⟩ = some (.func (.func f) first cap)) (h : TellsF w ⟨f, first, cap, 0⟩ mb) :
 Calls Tryz.prog 147 #[.pointer (some ⟨k, 0, none⟩)] w fun e w' => e = .returned (.bool (!mb)) ∧ Ext w w' := by
 obtain ⟨hen, hc⟩ := h; dsimp only at hen hc; have HC := Hd hc; clear hc; have hk := World.block_lt_of_cell? _ _ h0; go_enter Tryz.func147, Tryz.ntmps147
 go_wp2_with fail; refine (HC.out w (Keeps.refl _ _)).mono ?_; rintro e w2 ⟨rfl, hE⟩; have HE := Hd hE; clear hE; go_wp2_with fail; go_ret; exact ⟨rfl, HE.out⟩
theorem does2_any (w : World) (k sb : Nat) (cb : Bool) (h0 : w.cell? ⟨k, 0, none⟩ = some (.pointer (some ⟨sb, 0, none⟩))) (h1 : w.cell? ⟨sb, 8, none⟩ = some (.bool cb)) :
 Calls Tryz.prog 148 #[.pointer (some ⟨k, 0, none⟩)] w fun e w' => e = .returned (.bool cb) ∧ w' = w := by
 have hk := World.block_lt_of_cell? _ _ h0; have hs := World.block_lt_of_cell? _ _ h1; go_enter Tryz.func148, Tryz.ntmps148
 go_wp2
 go_ret; exact ⟨rfl, rfl⟩
theorem Mem.rowMade {α : Type} {E : Enc α} {F : Nat → Prop} {w0 w : World} {L : List Res} {g : Nat} {t : TypeId} {l : List α} (h : Mem F w0 w (cellsR g t (E.row l) :: L)) (hl : l.length ≤ 1000000) (hz : 1 ≤ E.sz) : Mem F w0 w (rowR E (.slice (some ⟨g, 0, none⟩) l.length l.length) l :: L) :=
 h.turn fun A hA => ⟨fun k => ⟨fun hk => by rw [(hA.1 k).1 hk]; rfl, fun hk => (hA.1 k).2 (Option.some.inj (show some g = some k from hk)).symm⟩, by
  have hr := hA.2.reads; refine ⟨by rw [E.row_len], .inr ⟨g, 0, l.length, rfl, Nat.zero_le _, Nat.le_refl _, by simp [maxLen]; omega, hA.2.lt, fun j hj => ?_, fun j u hu => ?_⟩⟩
  · rw [Nat.zero_add]
    have hj' : j < (E.row l).length := by rw [E.row_len]; exact hj
    exact ⟨by rw [hr.1, List.getElem?_eq_getElem hj']; rfl, hr.2 j⟩
  · rw [Nat.zero_add, hr.1]; exact hu⟩
theorem TellsF.ext {w w' : World} {p : Flt} {b : Bool} (h : TellsF w p b) (e : Ext w w') : TellsF w' p b := ⟨h.1, fun w1 h1 => h.2 w1 (e.ext h1)⟩
def ArgF (w : World) (lv : Value) (x : List (Flt × Bool)) : Prop := (x = [] ∧ lv = .slice none 0 0) ∨ ∃ lb q b, x = [(q, b)] ∧ lv = .slice (some ⟨lb, 0, none⟩) 1 1 ∧ Box w lb 158 (fltE.cells q) ∧ TellsF w q b
theorem add_flt {F : Nat → Prop} {w0 w : World} {L : List Res} {v : Value} {l : List Flt} (ty : TypeId) (h : Mem F w0 w (rowR fltE v l :: L)) (lv : Value) (x : List (Flt × Bool)) (hx : ArgF w lv x) (hl : l.length ≤ 100) :
 ∃ v' w', (Builtin.append_ #[210, 210] ty #[v, lv]).run Tryz.prog w = .ok v' w' ∧ Mem F w0 w' (rowR fltE v' (l ++ x.map (·.1)) :: L) := by
 obtain ⟨i0, hi, hz0, hz1, hz2⟩ := info_parts infoFlt; rcases hx with ⟨rfl, rfl⟩ | ⟨lb, q, b, rfl, rfl, hc, -⟩
 · obtain ⟨v', w', hr, hm⟩ := Mem.append (P := Tryz.prog) 210 210 ty 158 i0 _ 2 16 Tryz.underlying210 hi hz0 hz1 hz2 rfl h
    (.slice none 0 0) 0 [] (SrcCells.toSrc (.inl ⟨rfl, rfl, rfl⟩) Tryz.underlying210 rfl (fun u hu => by cases hu)) (by simp [maxLen]; omega) (by omega)
   refine ⟨v', w', hr, ?_⟩; rw [List.map_nil, List.append_nil]; unfold rowR; rw [Nat.add_zero, List.append_nil] at hm; exact hm
 · obtain ⟨v', w', hr, hm⟩ := Mem.rowAdd (P := Tryz.prog) 210 210 ty 158 i0 _ 16 Tryz.underlying210 Tryz.underlying210 hi hz0 hz1 hz2 rfl h lb 1 q hc.reads.1 (by simp [maxLen]; omega) (by omega)
   exact ⟨v', w', hr, hm⟩
def doesI (nb mb cb : Bool) (x : List (Flt × Bool)) : Int := if nb then 1 else if !mb then 2 else if cb then 360 else firstF x
def doesB (nb mb cb : Bool) (x : List (Flt × Bool)) : Bool := !nb && mb && !cb && noneF x
theorem noneF_cons (p : Flt × Bool) (l : List (Flt × Bool)) : noneF (p :: l) = (!p.2 && noneF l) := by simp [noneF]
theorem firstF_take : ∀ (l : List (Flt × Bool)) (j : Nat) (hj : j < l.length), (∀ q ∈ l.take j, q.2 = false) → l[j].2 = true → firstF l = l[j].1.why
 | (p, b) :: l, 0, _, _, h => by
   have h : b = true := h; subst h; rfl
 | (p, b) :: l, j + 1, hj, hb, h => by
   have h0 : b = false := hb (p, b) (by rw [List.take_succ_cons]; exact List.mem_cons_self ..); subst h0; exact firstF_take l j (by simpa using hj) (fun q hq => hb q (by rw [List.take_succ_cons]; exact List.mem_cons_of_mem _ hq)) (by simpa using h)
theorem noneF_take (l : List (Flt × Bool)) (j : Nat) (hj : j < l.length) (h : l[j].2 = true) : noneF l = false := by
 unfold noneF; rw [List.all_eq_false]; exact ⟨l[j], List.getElem_mem hj, by rw [h]; simp⟩
theorem firstF_all (l : List (Flt × Bool)) (h : ∀ q ∈ l, q.2 = false) : firstF l = 0 ∧ noneF l = true := by
 induction l with
 | nil => exact ⟨rfl, rfl⟩
 | cons p l ih =>
   obtain ⟨p, b⟩ := p; have hb : b = false := h (p, b) (List.mem_cons_self ..); subst hb; have := ih fun q hq => h q (List.mem_cons_of_mem _ hq)
   exact ⟨this.1, by rw [noneF_cons, this.2]; rfl⟩
def allF (p : Option Addr) (k4 k5 : Nat) (nb mb cb : Bool) (x : List (Flt × Bool)) : List (Flt × Bool) :=
 [(⟨84, #[.pointer p], #[], 1⟩, nb), (⟨147, #[], #[.pointer (some ⟨k5, 0, none⟩)], 2⟩, !mb), (⟨148, #[], #[.pointer (some ⟨k4, 0, none⟩)], 360⟩, cb)] ++ x
theorem allF_first (p : Option Addr) (k4 k5 : Nat) (nb mb cb : Bool) (x : List (Flt × Bool)) : firstF (allF p k4 k5 nb mb cb x) = doesI nb mb cb x := by
 unfold allF doesI; cases nb <;> cases mb <;> cases cb <;> rfl
theorem allF_none (p : Option Addr) (k4 k5 : Nat) (nb mb cb : Bool) (x : List (Flt × Bool)) : noneF (allF p k4 k5 nb mb cb x) = doesB nb mb cb x := by
 unfold allF doesB; rw [List.cons_append, List.cons_append, List.cons_append, List.nil_append, noneF_cons, noneF_cons, noneF_cons]; cases nb <;> cases mb <;> cases cb <;> simp
theorem allF_tells {w wr : World} {p : Option Addr} {k4 k5 : Nat} {nb mb cb : Bool} {mf : Nat} {m1 m2 : Array Value} {lv : Value} {x : List (Flt × Bool)} (hE : Ext w wr)
 (hn : ∀ w1, Ext w w1 → Calls Tryz.prog 84 #[.pointer p] w1 fun e w2 => e = .returned (.bool nb) ∧ w2 = w1)
 (hm : nb = false → TellsF w ⟨mf, m1, m2, 0⟩ mb) (hs : nb = false → ∃ sb, p = some ⟨sb, 0, none⟩ ∧ w.cell? ⟨sb, 8, none⟩ = some (.bool cb)) (hx : ArgF w lv x)
 (b5 : Box wr k5 22 [.func (.func mf) m1 m2]) (b4 : Box wr k4 64 [.pointer p])
 (j : Nat) (hj : j < (allF p k4 k5 nb mb cb x).length) (hf : ∀ q ∈ (allF p k4 k5 nb mb cb x).take j, q.2 = false) : TellsF wr (allF p k4 k5 nb mb cb x)[j].1 (allF p k4 k5 nb mb cb x)[j].2 := by
 have hnb : 1 ≤ j → nb = false := fun h => hf (_, nb) (by
  obtain ⟨i, rfl⟩ : ∃ i, j = i + 1 := ⟨j - 1, by omega⟩; unfold allF; rw [List.cons_append, List.take_succ_cons]; exact List.mem_cons_self ..)
 obtain rfl | rfl | rfl | hj3 : j = 0 ∨ j = 1 ∨ j = 2 ∨ 3 ≤ j := by omega
 · refine ⟨enters_of Tryz.func84 (by kernel_rfl) rfl, fun w1 h1 => ?_⟩
   refine (hn w1 (hE.ext h1)).mono ?_; rintro e w2 ⟨rfl, rfl⟩; exact ⟨rfl, Keeps.refl _ _⟩
 · refine ⟨enters_of Tryz.func147 (by kernel_rfl) rfl, fun w1 h1 => ?_⟩
   exact does1_any w1 mb k5 mf m1 m2 ((b5.ext h1).reads.1 0) ((hm (hnb (Nat.le_refl _))).ext (hE.ext h1))
 · refine ⟨enters_of Tryz.func148 (by kernel_rfl) rfl, fun w1 h1 => ?_⟩
   obtain ⟨sb, rfl, hc⟩ := hs (hnb (by omega)); refine (does2_any w1 k4 sb cb ((b4.ext h1).reads.1 0) ((hE.ext h1).cell (noB _) hc)).mono ?_; rintro e w2 ⟨rfl, rfl⟩; exact ⟨rfl, Keeps.refl _ _⟩
 · rcases hx with ⟨rfl, -⟩ | ⟨lb, q, b, rfl, -, -, ht⟩
   · have : (allF p k4 k5 nb mb cb []).length = 3 := rfl
     omega
   · have : (allF p k4 k5 nb mb cb [(q, b)]).length = 4 := rfl
     obtain rfl : j = 3 := by omega
     exact ht.ext hE
theorem does_any {Q : World → Prop} (w : World) (p : Option Addr) (nb mb cb : Bool) (mf df : Nat) (m1 m2 d1 d2 : Array Value) (lv : Value) (x : List (Flt × Bool)) (hxl : x.length ≤ 1)
 (hn : ∀ w1, Ext w w1 → Calls Tryz.prog 84 #[.pointer p] w1 fun e w2 => e = .returned (.bool nb) ∧ w2 = w1)
 (hm : nb = false → TellsF w ⟨mf, m1, m2, 0⟩ mb) (hs : nb = false → ∃ sb, p = some ⟨sb, 0, none⟩ ∧ w.cell? ⟨sb, 8, none⟩ = some (.bool cb)) (hx : ArgF w lv x)
 (hen : ∀ args w, (callFunc df args).run Tryz.prog w = .ok (.enter df args) w)
 (hd : doesB nb mb cb x = true → ∀ w1, Ext w w1 → Calls Tryz.prog df (d1 ++ d2) w1 fun e w2 => e = .returned (.tuple #[]) ∧ Q w2) :
 Calls Tryz.prog 88 #[.pointer p, .func (.func mf) m1 m2, .func (.func df) d1 d2, lv] w fun e w' =>
  e = .returned (.int .i64 (doesI nb mb cb x)) ∧ (doesB nb mb cb x = true → Q w') ∧ (doesB nb mb cb x = false → Ext w w') := by
 have HM := Hd (Mem.start0 w); have HN := Hd hn; have HMY := Hd hm; have HS := Hd hs; have HX := Hd hx; have HD := Hd hd; clear hn hm hs hx hd; go_enter Tryz.func88, Tryz.ntmps88
 have fM := HM.out.fa; go_wp2_with (at_builtin; refine standing ?_); clear fM; obtain ⟨k4, hk4⟩ : ∃ k, w.heap.size = k := ⟨_, rfl⟩; obtain ⟨k5, hk5⟩ : ∃ k, w.heap.size + 1 = k := ⟨_, rfl⟩; obtain ⟨k6, hk6⟩ : ∃ k, w.heap.size + 1 + 1 = k := ⟨_, rfl⟩; refine nxt HM fun w1 M => ?_
 replace HM := M; clear M; rw [hk6] at HM ⊢; rw [hk5] at HM ⊢; rw [hk4] at HM ⊢; clear hk4 hk5 hk6; have hr1 := Mem.rowMade (E := fltE) (l := [⟨84, #[.pointer p], #[], 1⟩, ⟨147, #[], #[.pointer (some ⟨k5, 0, none⟩)], 2⟩, ⟨148, #[], #[.pointer (some ⟨k4, 0, none⟩)], 360⟩]) HM.out (by simp) (by decide)
 obtain ⟨v2, w2, hr, hm⟩ := add_flt 210 hr1 lv x (by
  have he := HM.out.extTo; rcases HX.out with h | ⟨lb, q, b, h1, h2, h3, h4⟩
  · exact .inl h
  · exact .inr ⟨lb, q, b, h1, h2, h3.ext he, h4.ext he⟩) (by simp)
 replace HM := Hd hm; clear hm hr1; refine ⟨?_⟩; refine wpList_append_ran rfl _ _ hr rfl rfl rfl ?_; clear hr; obtain ⟨fs, hfs⟩ : ∃ fs, allF p k4 k5 nb mb cb x = fs := ⟨_, rfl⟩; have HFS := Hd hfs
 have hm2 : Mem NoB w w2 [rowR fltE v2 (fs.map (·.1)), cellsR k5 22 [.func (.func mf) m1 m2], cellsR k4 64 [.pointer p]] := by
  rw [← hfs]; exact HM.out
 replace HM := Hd hm2
 have hlen : fs.length ≤ 4 := by
  rw [← hfs]; unfold allF; simp; omega
 obtain ⟨a2, c2, rfl⟩ := HM.out.fact fun A h => row_len h
 rw [List.length_map] at *; clear hm2 hfs; go_wp2_with fail; go_loopw [24] (fun i wr => ∃ j : Nat, j ≤ fs.length ∧ i = .int .i64 j ∧ Hid (∀ q ∈ fs.take j, q.2 = false) ∧ Hid (Mem NoB w wr [rowR fltE (.slice a2 fs.length c2) (fs.map (·.1)), cellsR k5 22 [.func (.func mf) m1 m2], cellsR k4 64 [.pointer p]])) (fun i _ => fs.length - (intOf i).toNat)
 case atStart => exact ⟨0, Nat.zero_le _, rfl, Hd (fun q hq => by cases hq), HM⟩
 case round =>
  clear HM; obtain ⟨j, hj, rfl, HF, HM⟩ := hrel; by_cases hlt : j < fs.length
  · have g1 : (j : Int) < fs.length := by omega
    have g2 : ¬ (j : Int) < 0 := by omega
    obtain ⟨A1, hrow⟩ := HM.out.get (r := rowR fltE (.slice a2 fs.length c2) (fs.map (·.1))) pk; obtain ⟨g, o, cap, hsl, hcap, -, hat⟩ := row_cells hrow (by rw [List.length_map]; omega); rw [List.length_map] at hsl hcap; have hat0 := hat j (by rw [List.length_map]; exact hlt); injection hsl with hs1 hs2 hs3
    subst hs1 hs3; have c0 := hat0 0 (by decide); have c1 := hat0 1 (by decide); obtain ⟨A5, h5⟩ := HM.out.get (r := cellsR k5 22 [.func (.func mf) m1 m2]) pk; obtain ⟨A4, h4⟩ := HM.out.get (r := cellsR k4 64 [.pointer p]) pk; have htl := allF_tells HM.out.extTo HN.out HMY.out HS.out HX.out h5.2 h4.2 j (by rw [HFS.out]; exact hlt) (by rw [HFS.out]; exact HF.out); have hq1 : (allF p k4 k5 nb mb cb x)[j]'(by rw [HFS.out]; exact hlt) = fs[j] := by first | (congr 1; exact HFS.out) | congr 1
    rw [hq1] at htl; have HTK := Hd (List.take_succ_eq_append_getElem hlt); have HFI := Hd (fun h => firstF_take fs j hlt HF.out h); have HNO := Hd (fun h => noneF_take fs j hlt h); rw [List.getElem_map] at c0 c1; obtain ⟨q, hq⟩ : ∃ q, fs[j] = q := ⟨_, rfl⟩; rw [hq] at htl c0 c1 HTK HFI HNO; obtain ⟨⟨qf, q1, q2, qw⟩, qb⟩ := q; obtain ⟨hqe, htl⟩ := htl; dsimp only at htl hqe HFI HNO; have c0' : wr.cell? ⟨g, o + j * 2, none⟩ = some (.func (.func qf) q1 q2) := c0; have c1' : wr.cell? ⟨g, o + j * 2 + 1, none⟩ = some (.int .i64 qw) := c1; have HTL := Hd htl; have hgl := World.block_lt_of_cell? _ _ c0'; clear hrow hat hat0 c0 c1 h5 h4 htl hq1 hq hcap; go_wp2_with fail; obtain ⟨k11, hk11⟩ : ∃ k, wr.heap.size = k := ⟨_, rfl⟩; obtain ⟨w3, hw3⟩ : ∃ w3, wr.alloc (Obj.cells #[.func (.func qf) q1 q2, .int .i64 qw] 158) = w3 := ⟨_, rfl⟩; have hE3 : Ext wr w3 := by rw [← hw3]; exact (Keeps.refl _ _).alloc _
    have hm3 := HM.out.alloc (t := 158) (cs := [.func (.func qf) q1 q2, .int .i64 qw]) hk11; rw [show wr.alloc (Obj.cells [.func (.func qf) q1 q2, .int .i64 qw].toArray 158) = w3 from hw3] at hm3; rw [hw3, hk11]; replace HM := Hd hm3; clear hw3 hk11 hm3 c0' c1' hgl; refine (HTL.out w3 hE3).mono ?_; rintro e w4 ⟨rfl, hE4⟩; replace HM := Hd (HM.out.ext hE4); clear hE3 hE4 HTL; cases qb
    · skip
      have fM := HM.out.fa; go_wp2_with fail; all_goals clear fM
      go_roundw
      case rel =>
       refine ⟨j + 1, by omega, by go_num, Hd ?_, Hd (Mem.sub HM.out sbI)⟩; rw [HTK.out]; intro y hy; rcases List.mem_append.1 hy with hy | hy
       · exact HF.out y hy
       · rw [List.mem_singleton.1 hy]
      case measure => simp [intOf]; omega
    · have h1 := HFI.out rfl
      have h2 := HNO.out rfl; rw [← HFS.out, allF_first] at h1; rw [← HFS.out, allF_none] at h2; have H1 := Hd h1; have H2 := Hd h2; clear h1 h2; have fM := HM.out.fa; go_wp2_with fail; all_goals clear fM
      go_ret; rw [H1.out, H2.out]; exact ⟨rfl, (fun h => by cases h), fun _ => HM.out.extTo⟩
  · obtain rfl : j = fs.length := by omega
    rw [List.take_length] at HF; obtain ⟨h1, h2⟩ := firstF_all fs HF.out; rw [← HFS.out, allF_first] at h1; rw [← HFS.out, allF_none] at h2; have H1 := Hd h1; have H2 := Hd h2; have HDD := Hd (HD.out h2 wr HM.out.extTo); clear h1 h2; go_wp2_with fail; refine HDD.out.mono ?_; rintro e w4 ⟨rfl, hq⟩; have HQ := Hd hq; clear hq; go_wp2_with fail; go_ret; rw [H1.out, H2.out]; exact ⟨rfl, fun _ => HQ.out, fun h => by cases h⟩
section
def qSA0 : List (Nat × Nat) := [(3, 0), (3, 1), (0, 2), (0, 3), (0, 4), (3, 5), (3, 6), (0, 7), (0, 8), (0, 9), (3, 10), (2, 11), (0, 12), (1, 13), (1, 14), (0, 15), (0, 16), (0, 17), (1, 18)]
def byeR (v : Value) (o : Option (List UInt8)) : Res := anyR (fun F w => (o = none ∧ v = .slice none 0 0 ∧ ∀ k, ¬ F k) ∨ ∃ l, o = some l ∧ l ≠ [] ∧ (bytR v l).p F w)
 (fun h hk hs => h.imp id fun ⟨l, h1, h2, h3⟩ => ⟨l, h1, h2, Res.keeps _ h3 hk hs⟩) (fun h k hF => by
  rcases h with ⟨-, -, h⟩ | ⟨l, -, -, h⟩
  · exact (h k hF).elim
  · exact Res.lt _ h k hF)
theorem Mem.byeNil {F : Nat → Prop} {w0 w : World} {L : List Res} (h : Mem F w0 w L) : Mem F w0 w (byeR (.slice none 0 0) none :: L) :=
 h.new (r := byeR (.slice none 0 0) none) (G := fun _ => False) (Keeps.refl _ _) (.inl ⟨rfl, rfl, fun _ h => h⟩) (fun k h => h.elim)
theorem Mem.byeSome {F : Nat → Prop} {w0 w : World} {L : List Res} {v : Value} {l : List UInt8} (h : Mem F w0 w (bytR v l :: L)) (hl : l ≠ []) : Mem F w0 w (byeR v (some l) :: L) := h.turn fun A hA => .inr ⟨l, rfl, hl, hA⟩
theorem byeR.byt {A : Nat → Prop} {w : World} {v : Value} {l : List UInt8} (h : (byeR v (some l)).p A w) : l ≠ [] ∧ (bytR v l).p A w := by
 rcases h with ⟨h, -⟩ | ⟨m, h1, h2, h3⟩
 · cases h
 · cases h1; exact ⟨h2, h3⟩
theorem byeR.nil {A : Nat → Prop} {w : World} {v : Value} (h : (byeR v none).p A w) : v = .slice none 0 0 := by
 rcases h with ⟨-, h, -⟩ | ⟨m, h1, h2, h3⟩
 · exact h
 · cases h1
abbrev sesC (rb : Nat) (bv : Value) (s : Ss) : List Value := [.pointer (some ⟨rb, 0, none⟩), .int .i64 s.member, .int .i64 s.number, .int .i64 s.next, .int .i64 s.sent, .int .i64 s.acked, .int .i64 s.heard, .bool s.live, .bool s.closed, .int .i64 0, .int .i64 (s.ring.most : Int), .int .i64 s.wait, bv]
abbrev sesL (sb rb : Nat) (bv : Value) (s : Ss) : List Res := [cellsR sb 99 (sesC rb bv s), ringR rb s.ring, byeR bv s.bye]
def sesR (sb : Nat) (s : Ss) : Res := someR fun p : Nat × Value => listR (sesL sb p.1 p.2 s)
section
variable {F : Nat → Prop} {w0 w : World} {L : List Res} {sb rb : Nat} {bv : Value} {s : Ss}
theorem Mem.sesOpen (h : Mem F w0 w (sesR sb s :: L)) : ∃ rb bv, Mem F w0 w (cellsR sb 99 (sesC rb bv s) :: ringR rb s.ring :: byeR bv s.bye :: L) := by
 obtain ⟨p, hm⟩ := Mem.openE (M := fun p : Nat × Value => sesL sb p.1 p.2 s) h fun A ⟨p, hp⟩ => ⟨p, A, hp, fun _ h => h⟩
 exact ⟨p.1, p.2, hm⟩
theorem Mem.sesClose (h : Mem F w0 w (cellsR sb 99 (sesC rb bv s) :: ringR rb s.ring :: byeR bv s.bye :: L)) : Mem F w0 w (sesR sb s :: L) :=
 (Mem.list' (L1 := sesL sb rb bv s) h).turn fun A hA => ⟨(rb, bv), hA⟩
theorem snone_ses (hb : Box w sb 99 (sesC rb bv s)) : Calls Tryz.prog 84 #[.pointer (some ⟨sb, 0, none⟩)] w fun e w' => e = .returned (.bool false) ∧ w' = w :=
 snone_no w sb _ (hb.reads.1 0)
end
theorem sreach1 (w : World) (sb k2 k3 rb : Nat) (bv : Value) (s : Ss) (many : Int) (BS : Box w sb 99 (sesC rb bv s)) (B2 : Box w k2 64 [.pointer (some ⟨sb, 0, none⟩)]) (B3 : Box w k3 2 [.int .i64 many]) :
 Calls Tryz.prog 95 #[.pointer (some ⟨k3, 0, none⟩), .pointer (some ⟨k2, 0, none⟩)] w fun e w' => e = .returned (.bool (decide (s.next ≤ many ∧ many ≤ 2147483647))) ∧ Ext w w' := by
 have HM := Hd (Mem.start0 w); replace BS := Hd BS; replace B2 := Hd B2; replace B3 := Hd B3; obtain ⟨cBS, zBS⟩ := BS.out.reads; have lBS := BS.out.lt; obtain ⟨cB2, zB2⟩ := B2.out.reads; have lB2 := B2.out.lt; obtain ⟨cB3, zB3⟩ := B3.out.reads; have lB3 := B3.out.lt; go_enter Tryz.func95, Tryz.ntmps95
 go_wp2_with fail; have hE0 : Keeps NoB w w.drew := (Keeps.refl _ _).drew; refine rgE [(3, 0), (3, 1), (0, 2), (0, 3), (0, 4), (3, 5)] [] [6, 7] [6, 7] ?_; simp only [planL, nL]; iterate 6 (first | (refine pR (by rfl) (fun W => by go_simp <;> with_reducible rfl) ?_; simp only [nP]) | (refine pX (by rfl) (by go_simp <;> with_reducible rfl) ?_; simp only [nP]))
 refine plan_nil ?_; simp only [tailL, List.filterMap_cons, List.filterMap_nil, nL]; change wpList _ _ _ (_ :: _ :: []) _ _; go_wp2_with fail; refine (sin_i64 _ _ _ _).mono ?_; rintro e w7 ⟨rfl, rfl⟩; have hE2 := hE0; go_wp2_with fail; go_ret; exact ⟨by rw [Bool.decide_and]; rfl, Ext.drew0 w⟩
theorem sack1 (w : World) (sb k2 k3 k4 rb : Nat) (bv : Value) (s : Ss) (i now : Int) (BS : Box w sb 99 (sesC rb bv s)) (B2 : Box w k2 64 [.pointer (some ⟨sb, 0, none⟩)]) (B3 : Box w k3 2 [.int .i64 i]) (B4 : Box w k4 2 [.int .i64 now]) :
 Calls Tryz.prog 97 #[.pointer (some ⟨k3, 0, none⟩), .pointer (some ⟨k2, 0, none⟩), .pointer (some ⟨k4, 0, none⟩)] w fun e w' => e = .returned (.bool (decide ((s.acked ≤ i ∧ i ≤ s.sent) ∧ s.heard ≤ now ∧ now ≤ farN))) ∧ Ext w w' := by
 have HM := Hd (Mem.start0 w); replace BS := Hd BS; replace B2 := Hd B2; replace B3 := Hd B3; replace B4 := Hd B4; obtain ⟨cBS, zBS⟩ := BS.out.reads; have lBS := BS.out.lt; obtain ⟨cB2, zB2⟩ := B2.out.reads; have lB2 := B2.out.lt; obtain ⟨cB3, zB3⟩ := B3.out.reads; have lB3 := B3.out.lt; obtain ⟨cB4, zB4⟩ := B4.out.reads; have lB4 := B4.out.lt; by_cases hd : s.acked ≤ i ∧ i ≤ s.sent
 · have hd1 := decide_eq_true hd
   go_enter Tryz.func97, Tryz.ntmps97
   go_wp2_with fail; have hE0 : Keeps NoB w w.drew := (Keeps.refl _ _).drew; refine rgE qSA0 [13, 14, 18] [11, 19, 20, 21] [19, 20, 21] ?_ (hp := (plan3 [0, 0, 2, 6, 14, 30, 0, 64, 192, 448, 960, 2047, 4095, 8191, 8191, 24575, 57343, 122879, 253951, 524287, 1048575, 2097151] (by kernel_rfl) rfl (by kernel_rfl))); simp only [qSA0, planL, nL]; iterate 11 (first | (refine pR (by rfl) (fun W => by go_simp <;> with_reducible rfl) ?_; simp only [nP]) | (refine pX (by rfl) (by go_simp <;> with_reducible rfl) ?_; simp only [nP]))
   refine plan_does rfl (fun K hK => ?_); go_wp2_with fail; refine (sin_i64 _ _ _ _).mono ?_; rintro e w7 ⟨rfl, rfl⟩; rw [hd1]; have hE2 := hE0; refine hK _ _ ⟨ClsE.of (by assumption), ?_⟩; clear hK K; try simp only [nP]
   refine pM _ rfl rfl ?_; simp only [nP, nE]; iterate 2 ((refine pL rfl (fun W => by go_simp <;> with_reducible rfl) ?_; simp only [nP]))
   iterate 3 ((refine pR rfl (fun W => by go_simp <;> with_reducible rfl) ?_; simp only [nP]))
   refine pL rfl (fun W => by go_simp <;> with_reducible rfl) ?_; simp only [nP]; refine plan_nil ?_; simp only [tailL, List.filterMap_cons, List.filterMap_nil, nL]; change wpList _ _ _ (_ :: _ :: _ :: []) _ _; go_wp2_with fail; refine (sin_i64 _ _ _ _).mono ?_; rintro e w7 ⟨rfl, rfl⟩; have hE3 := hE0; go_wp2_with fail; go_ret; exact ⟨by simp [hd, farN], Ext.drew0 w⟩
 · have hd1 := decide_eq_false hd
   go_enter Tryz.func97, Tryz.ntmps97
   go_wp2_with fail; have hE0 : Keeps NoB w w.drew := (Keeps.refl _ _).drew; refine rgE qSA0 [13, 14, 18] [11, 19, 20, 21] [19, 20, 21] ?_ (hp := (plan3 [0, 0, 2, 6, 14, 30, 0, 64, 192, 448, 960, 2047, 4095, 8191, 8191, 24575, 57343, 122879, 253951, 524287, 1048575, 2097151] (by kernel_rfl) rfl (by kernel_rfl))); simp only [qSA0, planL, nL]; iterate 11 (first | (refine pR (by rfl) (fun W => by go_simp <;> with_reducible rfl) ?_; simp only [nP]) | (refine pX (by rfl) (by go_simp <;> with_reducible rfl) ?_; simp only [nP]))
   refine plan_does rfl (fun K hK => ?_); go_wp2_with fail; refine (sin_i64 _ _ _ _).mono ?_; rintro e w7 ⟨rfl, rfl⟩; rw [hd1]; have hE2 := hE0; refine hK _ _ ⟨ClsE.of (by assumption), ?_⟩; clear hK K; try simp only [nP]
   refine pM _ rfl rfl ?_; simp only [nP, nE]; iterate 2 ((refine plan_skip rfl ?_; simp only [nP]))
   iterate 3 ((refine plan_skip rfl ?_; simp only [nP]))
   refine plan_skip rfl ?_; simp only [nP]; refine plan_nil ?_; simp only [tailL, List.filterMap_cons, List.filterMap_nil, nL]; change wpList _ _ _ (_ :: _ :: _ :: []) _ _; go_wp2_with fail; go_ret; exact ⟨by simp [hd], Ext.drew0 w⟩
theorem shear1 (w : World) (sb k2 k3 rb : Nat) (bv : Value) (s : Ss) (now : Int) (BS : Box w sb 99 (sesC rb bv s)) (B2 : Box w k2 64 [.pointer (some ⟨sb, 0, none⟩)]) (B3 : Box w k3 2 [.int .i64 now]) :
 Calls Tryz.prog 99 #[.pointer (some ⟨k3, 0, none⟩), .pointer (some ⟨k2, 0, none⟩)] w fun e w' => e = .returned (.bool (decide (s.heard ≤ now ∧ now ≤ farN))) ∧ Ext w w' := by
 have HM := Hd (Mem.start0 w); replace BS := Hd BS; replace B2 := Hd B2; replace B3 := Hd B3; obtain ⟨cBS, zBS⟩ := BS.out.reads; have lBS := BS.out.lt; obtain ⟨cB2, zB2⟩ := B2.out.reads; have lB2 := B2.out.lt; obtain ⟨cB3, zB3⟩ := B3.out.reads; have lB3 := B3.out.lt; go_enter Tryz.func99, Tryz.ntmps99
 go_wp2_with fail; have hE0 : Keeps NoB w w.drew := (Keeps.refl _ _).drew; refine rgE [(3, 0), (3, 1), (0, 2), (0, 3), (0, 4), (3, 5)] [] [6, 7] [6, 7] ?_; simp only [planL, nL]; iterate 6 (first | (refine pR (by rfl) (fun W => by go_simp <;> with_reducible rfl) ?_; simp only [nP]) | (refine pX (by rfl) (by go_simp <;> with_reducible rfl) ?_; simp only [nP]))
 refine plan_nil ?_; simp only [tailL, List.filterMap_cons, List.filterMap_nil, nL]; change wpList _ _ _ (_ :: _ :: []) _ _; go_wp2_with fail; refine (sin_i64 _ _ _ _).mono ?_; rintro e w7 ⟨rfl, rfl⟩; have hE2 := hE0; go_wp2_with fail; go_ret; exact ⟨by rw [Bool.decide_and]; rfl, Ext.drew0 w⟩
abbrev sesM (sb rb : Nat) (bv : Value) (s : Ss) (L : List Res) : List Res := cellsR sb 99 (sesC rb bv s) :: ringR rb s.ring :: byeR bv s.bye :: L
theorem sreach2 {F : Nat → Prop} {w0 : World} (w : World) (sb k2 k3 rb : Nat) (bv : Value) (s : Ss) (many : Int)
 (h : Mem F w0 w [cellsR k3 2 [.int .i64 many], cellsR k2 64 [.pointer (some ⟨sb, 0, none⟩)], cellsR sb 99 (sesC rb bv s), ringR rb s.ring, byeR bv s.bye]) :
 Calls Tryz.prog 96 #[.pointer (some ⟨k3, 0, none⟩), .pointer (some ⟨k2, 0, none⟩)] w fun e w' => e = .returned (.tuple #[]) ∧ Upd F w0 w' (sesR sb { s with live := many == s.next }) := by
 have HM := Hd h; clear h; go_enter Tryz.func96, Tryz.ntmps96
 have fM := HM.out.fa; have hE0 : Keeps NoB w w.drew := (Keeps.refl _ _).drew; refine rgE [(3, 0), (3, 1), (3, 2), (0, 3), (0, 4), (0, 5), (3, 6), (0, 7), (0, 8), (0, 9), (0, 10)] [] [11] [11] ?_; simp only [planL, nL]; iterate 11 (first | (refine pR (by rfl) (fun W => by go_simp <;> with_reducible rfl) ?_; simp only [nP]) | (refine pX (by rfl) (by go_simp <;> with_reducible rfl) ?_; simp only [nP]))
 refine plan_nil ?_; simp only [tailL, List.filterMap_cons, List.filterMap_nil, nL]; change wpList _ _ _ (_ :: []) _ _; go_wp2_with fail; clear fM; refine nxt HM fun w2 M => ?_
 replace HM := M; clear M; go_end0
 exact ⟨rfl, (Mem.sesClose (rb := rb) (bv := bv) (s := { s with live := many == s.next }) (L := []) (Mem.sub HM.out (by repeat first | exact Sub.nil | refine Sub.cons (by with_reducible repeat first | exact ph | apply pt) ?_))).upd⟩
theorem shear2 {F : Nat → Prop} {w0 : World} (w : World) (sb k2 k3 rb : Nat) (bv : Value) (s : Ss) (now : Int)
 (h : Mem F w0 w [cellsR k3 2 [.int .i64 now], cellsR k2 64 [.pointer (some ⟨sb, 0, none⟩)], cellsR sb 99 (sesC rb bv s), ringR rb s.ring, byeR bv s.bye]) :
 Calls Tryz.prog 100 #[.pointer (some ⟨k3, 0, none⟩), .pointer (some ⟨k2, 0, none⟩)] w fun e w' => e = .returned (.tuple #[]) ∧ Upd F w0 w' (sesR sb { s with heard := now }) := by
 have HM := Hd h; clear h; go_enter Tryz.func100, Tryz.ntmps100
 have fM := HM.out.fa; go_wp2_with fail; all_goals clear fM
 refine nxt HM fun w2 M => ?_
 replace HM := M; clear M; go_end0
 exact ⟨rfl, (Mem.sesClose (rb := rb) (bv := bv) (s := { s with heard := now }) (L := []) (Mem.sub HM.out (by repeat first | exact Sub.nil | refine Sub.cons (by with_reducible repeat first | exact ph | apply pt) ?_))).upd⟩
theorem sack2 {F : Nat → Prop} {w0 : World} (w : World) (sb k2 k3 k4 rb : Nat) (bv : Value) (s : Ss) (i now : Int)
 (h : Mem F w0 w [cellsR k4 2 [.int .i64 now], cellsR k3 2 [.int .i64 i], cellsR k2 64 [.pointer (some ⟨sb, 0, none⟩)], cellsR sb 99 (sesC rb bv s), ringR rb s.ring, byeR bv s.bye]) :
 Calls Tryz.prog 98 #[.pointer (some ⟨k3, 0, none⟩), .pointer (some ⟨k4, 0, none⟩), .pointer (some ⟨k2, 0, none⟩)] w fun e w' => e = .returned (.tuple #[]) ∧ Upd F w0 w' (sesR sb { s with acked := i, heard := now }) := by
 have HM := Hd h; clear h; go_enter Tryz.func98, Tryz.ntmps98
 have fM := HM.out.fa; have hE0 : Keeps (fun k => k = sb) w w.drew := (Keeps.refl _ _).drew; refine rgK (fun k => k = sb) [(3, 0), (1, 1), (3, 2), (1, 3), (0, 4), (0, 5), (0, 6), (2, 7), (0, 8), (0, 9), (0, 10)] [1, 3] [7, 11] [11] ?_; simp only [planL, nL]; iterate 7 (first | (refine pR (by rfl) (fun W => by go_simp <;> with_reducible rfl) ?_; simp only [nP]) | (refine pX (by rfl) (by go_simp <;> with_reducible rfl) ?_; simp only [nP]) | (refine pK (by rfl) (fun W => by go_simp <;> with_reducible rfl) ?_; simp only [nP]))
 refine plan_does rfl (fun K hK => ?_); go_wp2_with fail; refine ⟨ClsK.of (by repeat (first | assumption | exact Keeps.refl _ _ | refine Keeps.alloc ?_ _ | refine Keeps.setOne ?_ _ _ | refine Keeps.setCell ?_ _ _ (.inl (by first | rfl | exact .inl rfl | exact .inr rfl | omega)) | refine Keeps.drew ?_)), ?_⟩; try simp only [nP]
 iterate 3 (refine pR rfl (fun W => by go_simp <;> with_reducible rfl) ?_; simp only [nP])
 refine plan_nil ?_; simp only [tailL, List.filterMap_cons, List.filterMap_nil, nL]; change wpList _ _ _ (_ :: []) _ _; go_wp2_with fail; clear fM; refine nxt HM fun w2 M => ?_
 replace HM := M; clear M; go_end0
 exact ⟨rfl, (Mem.sesClose (rb := rb) (bv := bv) (s := { s with acked := i, heard := now }) (L := []) (Mem.sub HM.out (by repeat first | exact Sub.nil | refine Sub.cons (by with_reducible repeat first | exact ph | apply pt) ?_))).upd⟩
theorem Mem.sesUpd {F : Nat → Prop} {w0 w : World} {sb rb : Nat} {bv : Value} {s : Ss} (h : Mem F w0 w [cellsR sb 99 (sesC rb bv s), ringR rb s.ring, byeR bv s.bye]) : Upd F w0 w (sesR sb s) := (Mem.sesClose (L := []) h).upd
theorem reach_does (s : Ss) (many : Int) : (s.reach many).2 = doesI false (decide (s.next ≤ many ∧ many ≤ 2147483647)) s.closed [] ∧ (doesB false (decide (s.next ≤ many ∧ many ≤ 2147483647)) s.closed [] = true → (s.reach many).1 = { s with live := many == s.next }) ∧ (doesB false (decide (s.next ≤ many ∧ many ≤ 2147483647)) s.closed [] = false → (s.reach many).1 = s) := by
 unfold Ss.reach doesI doesB; by_cases h : s.next ≤ many ∧ many ≤ 2147483647
 · rw [if_neg (fun h' => h' h), decide_eq_true h]
   cases s.closed <;> simp [firstF, noneF] <;> rfl
 · rw [if_pos h, decide_eq_false h]
   simp
theorem hear_does (s : Ss) (now : Int) : (s.hear now).2 = doesI false (decide (s.heard ≤ now ∧ now ≤ farN)) s.closed [] ∧ (doesB false (decide (s.heard ≤ now ∧ now ≤ farN)) s.closed [] = true → (s.hear now).1 = { s with heard := now }) ∧ (doesB false (decide (s.heard ≤ now ∧ now ≤ farN)) s.closed [] = false → (s.hear now).1 = s) := by
 unfold Ss.hear doesI doesB; by_cases h : s.heard ≤ now ∧ now ≤ farN
 · rw [if_neg (fun h' => h' h), decide_eq_true h]
   cases s.closed <;> simp [firstF, noneF]
 · rw [if_pos h, decide_eq_false h]
   simp
theorem ack_does (s : Ss) (i now : Int) : (s.ack i now).2 = doesI false (decide ((s.acked ≤ i ∧ i ≤ s.sent) ∧ s.heard ≤ now ∧ now ≤ farN)) s.closed [] ∧ (doesB false (decide ((s.acked ≤ i ∧ i ≤ s.sent) ∧ s.heard ≤ now ∧ now ≤ farN)) s.closed [] = true → (s.ack i now).1 = { s with acked := i, heard := now }) ∧ (doesB false (decide ((s.acked ≤ i ∧ i ≤ s.sent) ∧ s.heard ≤ now ∧ now ≤ farN)) s.closed [] = false → (s.ack i now).1 = s) := by
 unfold Ss.ack doesI doesB; by_cases h : (s.acked ≤ i ∧ i ≤ s.sent) ∧ s.heard ≤ now ∧ now ≤ farN
 · rw [if_neg (fun h' => h' h), decide_eq_true h]
   cases s.closed <;> simp [firstF, noneF]
 · rw [if_pos h, decide_eq_false h]
   simp
theorem reach_any {A : Nat → Prop} (w : World) (sb : Nat) (s : Ss) (many : Int) (h : (sesR sb s).p A w) :
 Calls Tryz.prog 32 #[.pointer (some ⟨sb, 0, none⟩), .int .i64 many] w fun e w' => e = .returned (.int .i64 (s.reach many).2) ∧ Upd A w w' (sesR sb (s.reach many).1) := by
 obtain ⟨rb, bv, hm⟩ := (Mem.start h).sesOpen; have HM := Hd hm; clear hm h; go_enter Tryz.func32, Tryz.ntmps32
 have fM := HM.out.fa; go_wp2_with fail; all_goals clear fM
 obtain ⟨k2, hk2⟩ : ∃ k, w.heap.size = k := ⟨_, rfl⟩; obtain ⟨k3, hk3⟩ : ∃ k, w.heap.size + 1 = k := ⟨_, rfl⟩; refine nxt HM fun w1 M => ?_
 replace HM := M; clear M; rw [hk3, hk2] at HM ⊢; clear hk2 hk3; obtain ⟨_, hb2⟩ := HM.out.get (r := cellsR k2 64 [.pointer (some ⟨sb, 0, none⟩)]) pk; obtain ⟨_, hb3⟩ := HM.out.get (r := cellsR k3 2 [.int .i64 many]) pk; obtain ⟨_, hbs⟩ := HM.out.get (r := cellsR sb 99 (sesC rb bv s)) pk; have m1 : TellsF w1 ⟨95, #[], #[.pointer (some ⟨k3, 0, none⟩), .pointer (some ⟨k2, 0, none⟩)], 0⟩ (decide (s.next ≤ many ∧ many ≤ 2147483647)) := ⟨enters_of Tryz.func95 (by kernel_rfl) rfl, fun w2 h2 => sreach1 w2 sb k2 k3 rb bv s many (hbs.2.ext h2) (hb2.2.ext h2) (hb3.2.ext h2)⟩; have m2 := fun (hb : doesB false (decide (s.next ≤ many ∧ many ≤ 2147483647)) s.closed [] = true) w2 (h2 : Ext w1 w2) => sreach2 w2 sb k2 k3 rb bv s many (HM.out.ext h2)
 obtain ⟨p1, p2, p3⟩ := reach_does s many; have hd := does_any (Q := fun w' => Upd A w w' (sesR sb ({ s with live := many == s.next }))) w1 (some ⟨sb, 0, none⟩) false (decide (s.next ≤ many ∧ many ≤ 2147483647)) s.closed 95 96 #[] #[.pointer (some ⟨k3, 0, none⟩), .pointer (some ⟨k2, 0, none⟩)] #[] #[.pointer (some ⟨k3, 0, none⟩), .pointer (some ⟨k2, 0, none⟩)] (.slice none 0 0) [] (by simp) (fun w2 h2 => snone_ses (hbs.2.ext h2)) (fun _ => m1) (fun _ => ⟨sb, rfl, hbs.2.reads.1 8⟩) (.inl ⟨rfl, rfl⟩) (enters_of Tryz.func96 (by kernel_rfl) rfl) (fun hb => m2 hb); clear m1 m2; refine hd.mono ?_; clear hd; rintro e w2 ⟨rfl, h1, h2⟩
 have key : Upd A w w2 (sesR sb (s.reach many).1) := by
  cases hb : doesB false (decide (s.next ≤ many ∧ many ≤ 2147483647)) s.closed [] with
  | true => rw [p2 hb]; exact h1 hb
  | false => rw [p3 hb]; exact Mem.sesUpd (Mem.sub (HM.out.ext (h2 hb)) (by repeat first | exact Sub.nil | refine Sub.cons (by with_reducible repeat first | exact ph | apply pt) ?_))
 have HK := Hd key; rw [← p1]; clear h1 h2 p1 p2 p3 key hbs; clear hb2 hb3; go_wp2_with fail; go_ret; exact ⟨rfl, HK.out⟩
theorem hear_any {A : Nat → Prop} (w : World) (sb : Nat) (s : Ss) (now : Int) (h : (sesR sb s).p A w) :
 Calls Tryz.prog 36 #[.pointer (some ⟨sb, 0, none⟩), .int .i64 now] w fun e w' => e = .returned (.int .i64 (s.hear now).2) ∧ Upd A w w' (sesR sb (s.hear now).1) := by
 obtain ⟨rb, bv, hm⟩ := (Mem.start h).sesOpen; have HM := Hd hm; clear hm h; go_enter Tryz.func36, Tryz.ntmps36
 have fM := HM.out.fa; go_wp2_with fail; all_goals clear fM
 obtain ⟨k2, hk2⟩ : ∃ k, w.heap.size = k := ⟨_, rfl⟩; obtain ⟨k3, hk3⟩ : ∃ k, w.heap.size + 1 = k := ⟨_, rfl⟩; refine nxt HM fun w1 M => ?_
 replace HM := M; clear M; rw [hk3, hk2] at HM ⊢; clear hk2 hk3; obtain ⟨_, hb2⟩ := HM.out.get (r := cellsR k2 64 [.pointer (some ⟨sb, 0, none⟩)]) pk; obtain ⟨_, hb3⟩ := HM.out.get (r := cellsR k3 2 [.int .i64 now]) pk; obtain ⟨_, hbs⟩ := HM.out.get (r := cellsR sb 99 (sesC rb bv s)) pk; have m1 : TellsF w1 ⟨99, #[], #[.pointer (some ⟨k3, 0, none⟩), .pointer (some ⟨k2, 0, none⟩)], 0⟩ (decide (s.heard ≤ now ∧ now ≤ farN)) := ⟨enters_of Tryz.func99 (by kernel_rfl) rfl, fun w2 h2 => shear1 w2 sb k2 k3 rb bv s now (hbs.2.ext h2) (hb2.2.ext h2) (hb3.2.ext h2)⟩; have m2 := fun (hb : doesB false (decide (s.heard ≤ now ∧ now ≤ farN)) s.closed [] = true) w2 (h2 : Ext w1 w2) => shear2 w2 sb k2 k3 rb bv s now (HM.out.ext h2)
 obtain ⟨p1, p2, p3⟩ := hear_does s now; have hd := does_any (Q := fun w' => Upd A w w' (sesR sb ({ s with heard := now }))) w1 (some ⟨sb, 0, none⟩) false (decide (s.heard ≤ now ∧ now ≤ farN)) s.closed 99 100 #[] #[.pointer (some ⟨k3, 0, none⟩), .pointer (some ⟨k2, 0, none⟩)] #[] #[.pointer (some ⟨k3, 0, none⟩), .pointer (some ⟨k2, 0, none⟩)] (.slice none 0 0) [] (by simp) (fun w2 h2 => snone_ses (hbs.2.ext h2)) (fun _ => m1) (fun _ => ⟨sb, rfl, hbs.2.reads.1 8⟩) (.inl ⟨rfl, rfl⟩) (enters_of Tryz.func100 (by kernel_rfl) rfl) (fun hb => m2 hb); clear m1 m2; refine hd.mono ?_; clear hd; rintro e w2 ⟨rfl, h1, h2⟩
 have key : Upd A w w2 (sesR sb (s.hear now).1) := by
  cases hb : doesB false (decide (s.heard ≤ now ∧ now ≤ farN)) s.closed [] with
  | true => rw [p2 hb]; exact h1 hb
  | false => rw [p3 hb]; exact Mem.sesUpd (Mem.sub (HM.out.ext (h2 hb)) (by repeat first | exact Sub.nil | refine Sub.cons (by with_reducible repeat first | exact ph | apply pt) ?_))
 have HK := Hd key; rw [← p1]; clear h1 h2 p1 p2 p3 key hbs; clear hb2 hb3; go_wp2_with fail; go_ret; exact ⟨rfl, HK.out⟩
theorem ack_any {A : Nat → Prop} (w : World) (sb : Nat) (s : Ss) (i now : Int) (h : (sesR sb s).p A w) :
 Calls Tryz.prog 34 #[.pointer (some ⟨sb, 0, none⟩), .int .i64 i, .int .i64 now] w fun e w' => e = .returned (.int .i64 (s.ack i now).2) ∧ Upd A w w' (sesR sb (s.ack i now).1) := by
 obtain ⟨rb, bv, hm⟩ := (Mem.start h).sesOpen; have HM := Hd hm; clear hm h; go_enter Tryz.func34, Tryz.ntmps34
 have fM := HM.out.fa; go_wp2_with fail; all_goals clear fM
 obtain ⟨k2, hk2⟩ : ∃ k, w.heap.size = k := ⟨_, rfl⟩; obtain ⟨k3, hk3⟩ : ∃ k, w.heap.size + 1 = k := ⟨_, rfl⟩; obtain ⟨k4, hk4⟩ : ∃ k, w.heap.size + 1 + 1 = k := ⟨_, rfl⟩; refine nxt HM fun w1 M => ?_
 replace HM := M; clear M; rw [hk4] at HM ⊢; rw [hk3] at HM ⊢; rw [hk2] at HM ⊢; clear hk2 hk3 hk4; obtain ⟨_, hb2⟩ := HM.out.get (r := cellsR k2 64 [.pointer (some ⟨sb, 0, none⟩)]) pk; obtain ⟨_, hb3⟩ := HM.out.get (r := cellsR k3 2 [.int .i64 i]) pk; obtain ⟨_, hb4⟩ := HM.out.get (r := cellsR k4 2 [.int .i64 now]) pk; obtain ⟨_, hbs⟩ := HM.out.get (r := cellsR sb 99 (sesC rb bv s)) pk; have m1 : TellsF w1 ⟨97, #[], #[.pointer (some ⟨k3, 0, none⟩), .pointer (some ⟨k2, 0, none⟩), .pointer (some ⟨k4, 0, none⟩)], 0⟩ (decide ((s.acked ≤ i ∧ i ≤ s.sent) ∧ s.heard ≤ now ∧ now ≤ farN)) := ⟨enters_of Tryz.func97 (by kernel_rfl) rfl, fun w2 h2 => sack1 w2 sb k2 k3 k4 rb bv s i now (hbs.2.ext h2) (hb2.2.ext h2) (hb3.2.ext h2) (hb4.2.ext h2)⟩; have m2 := fun (hb : doesB false (decide ((s.acked ≤ i ∧ i ≤ s.sent) ∧ s.heard ≤ now ∧ now ≤ farN)) s.closed [] = true) w2 (h2 : Ext w1 w2) => sack2 w2 sb k2 k3 k4 rb bv s i now (HM.out.ext h2)
 obtain ⟨p1, p2, p3⟩ := ack_does s i now; have hd := does_any (Q := fun w' => Upd A w w' (sesR sb ({ s with acked := i, heard := now }))) w1 (some ⟨sb, 0, none⟩) false (decide ((s.acked ≤ i ∧ i ≤ s.sent) ∧ s.heard ≤ now ∧ now ≤ farN)) s.closed 97 98 #[] #[.pointer (some ⟨k3, 0, none⟩), .pointer (some ⟨k2, 0, none⟩), .pointer (some ⟨k4, 0, none⟩)] #[] #[.pointer (some ⟨k3, 0, none⟩), .pointer (some ⟨k4, 0, none⟩), .pointer (some ⟨k2, 0, none⟩)] (.slice none 0 0) [] (by simp) (fun w2 h2 => snone_ses (hbs.2.ext h2)) (fun _ => m1) (fun _ => ⟨sb, rfl, hbs.2.reads.1 8⟩) (.inl ⟨rfl, rfl⟩) (enters_of Tryz.func98 (by kernel_rfl) rfl) (fun hb => m2 hb); clear m1 m2; refine hd.mono ?_; clear hd; rintro e w2 ⟨rfl, h1, h2⟩
 have key : Upd A w w2 (sesR sb (s.ack i now).1) := by
  cases hb : doesB false (decide ((s.acked ≤ i ∧ i ≤ s.sent) ∧ s.heard ≤ now ∧ now ≤ farN)) s.closed [] with
  | true => rw [p2 hb]; exact h1 hb
  | false => rw [p3 hb]; exact Mem.sesUpd (Mem.sub (HM.out.ext (h2 hb)) (by repeat first | exact Sub.nil | refine Sub.cons (by with_reducible repeat first | exact ph | apply pt) ?_))
 have HK := Hd key; rw [← p1]; clear h1 h2 p1 p2 p3 key hbs; clear hb2 hb3 hb4; go_wp2_with fail; go_ret; exact ⟨rfl, HK.out⟩
end
end Go.Proofs.YtoadjbgpfihoiaaGreatDoor
