/- Texts Kinds, PartC, one behind the other. Conditions: as each says. -/
import Derived.Test.YtoadjbgpfihoiaaGreatDoorPlQ
import Derived.Test.YtoadjbgpfihoiaaGreatDoorPlT
set_option linter.unusedVariables false
set_option linter.unusedSimpArgs false
set_option maxHeartbeats 8000000
set_option maxRecDepth 100000
namespace Go.Proofs.YtoadjbgpfihoiaaGreatDoor
open Go.RowKit
def fnV (f : Nat) : Value := .func (.func f) #[] #[]
def partCells (k : Nat) : Part → List Value
 | .member => [fnV 237, fnV 238, fnV 240, fnV 241]
 | .number _ => [fnV 248, .func (.func 249) #[] #[.pointer (some ⟨k, 0, none⟩)], fnV 251, fnV 252]
 | .index => [fnV 257, fnV 258, fnV 259, fnV 260]
 | .is => [fnV 261, fnV 262, fnV 263, fnV 265]
 | .said => [fnV 253, fnV 254, fnV 255, fnV 256]
 | .token => [fnV 242, fnV 243, fnV 244, fnV 246]
 | .entry => [fnV 267, fnV 268, fnV 270, fnV 271]
def partV (k : Nat) (p : Part) : Value := .agg (partCells k p).toArray
theorem made_member (w : World) : Calls Tryz.prog 202 #[] w fun e w' => e = .returned (partV 0 .member) ∧ Ext w w' := by
 have HM := Hd (Mem.start0 w); go_enter Tryz.func202, Tryz.ntmps202
 have fM := HM.out.fa; go_wp2_with fail; all_goals clear fM
 refine nxt HM fun w1 M => ?_
 replace HM := M; clear M; obtain ⟨Ahb, hb⟩ := HM.out.get (r := cellsR w.heap.size 219 [.func (.func 237) #[] #[], .func (.func 238) #[] #[], .func (.func 240) #[] #[], .func (.func 241) #[] #[]]) pk; have hc := hb.2.reads.1; clear hb; refine bodyPost_ret (v := partV 0 .member) (by simp [results, Tryz.results202, go_sem, hc, partCells, partV, fnV]) rfl ⟨rfl, HM.out.extTo⟩
theorem made_token (w : World) : Calls Tryz.prog 203 #[] w fun e w' => e = .returned (partV 0 .token) ∧ Ext w w' := by
 have HM := Hd (Mem.start0 w); go_enter Tryz.func203, Tryz.ntmps203
 have fM := HM.out.fa; go_wp2_with fail; all_goals clear fM
 refine nxt HM fun w1 M => ?_
 replace HM := M; clear M; obtain ⟨Ahb, hb⟩ := HM.out.get (r := cellsR w.heap.size 219 [.func (.func 242) #[] #[], .func (.func 243) #[] #[], .func (.func 244) #[] #[], .func (.func 246) #[] #[]]) pk; have hc := hb.2.reads.1; clear hb; refine bodyPost_ret (v := partV 0 .token) (by simp [results, Tryz.results203, go_sem, hc, partCells, partV, fnV]) rfl ⟨rfl, HM.out.extTo⟩
theorem made_said (w : World) : Calls Tryz.prog 205 #[] w fun e w' => e = .returned (partV 0 .said) ∧ Ext w w' := by
 have HM := Hd (Mem.start0 w); go_enter Tryz.func205, Tryz.ntmps205
 have fM := HM.out.fa; go_wp2_with fail; all_goals clear fM
 refine nxt HM fun w1 M => ?_
 replace HM := M; clear M; obtain ⟨Ahb, hb⟩ := HM.out.get (r := cellsR w.heap.size 219 [.func (.func 253) #[] #[], .func (.func 254) #[] #[], .func (.func 255) #[] #[], .func (.func 256) #[] #[]]) pk; have hc := hb.2.reads.1; clear hb; refine bodyPost_ret (v := partV 0 .said) (by simp [results, Tryz.results205, go_sem, hc, partCells, partV, fnV]) rfl ⟨rfl, HM.out.extTo⟩
theorem made_index (w : World) : Calls Tryz.prog 206 #[] w fun e w' => e = .returned (partV 0 .index) ∧ Ext w w' := by
 have HM := Hd (Mem.start0 w); go_enter Tryz.func206, Tryz.ntmps206
 have fM := HM.out.fa; go_wp2_with fail; all_goals clear fM
 refine nxt HM fun w1 M => ?_
 replace HM := M; clear M; obtain ⟨Ahb, hb⟩ := HM.out.get (r := cellsR w.heap.size 219 [.func (.func 257) #[] #[], .func (.func 258) #[] #[], .func (.func 259) #[] #[], .func (.func 260) #[] #[]]) pk; have hc := hb.2.reads.1; clear hb; refine bodyPost_ret (v := partV 0 .index) (by simp [results, Tryz.results206, go_sem, hc, partCells, partV, fnV]) rfl ⟨rfl, HM.out.extTo⟩
theorem made_is (w : World) : Calls Tryz.prog 207 #[] w fun e w' => e = .returned (partV 0 .is) ∧ Ext w w' := by
 have HM := Hd (Mem.start0 w); go_enter Tryz.func207, Tryz.ntmps207
 have fM := HM.out.fa; go_wp2_with fail; all_goals clear fM
 refine nxt HM fun w1 M => ?_
 replace HM := M; clear M; obtain ⟨Ahb, hb⟩ := HM.out.get (r := cellsR w.heap.size 219 [.func (.func 261) #[] #[], .func (.func 262) #[] #[], .func (.func 263) #[] #[], .func (.func 265) #[] #[]]) pk; have hc := hb.2.reads.1; clear hb; refine bodyPost_ret (v := partV 0 .is) (by simp [results, Tryz.results207, go_sem, hc, partCells, partV, fnV]) rfl ⟨rfl, HM.out.extTo⟩
theorem made_entry (w : World) : Calls Tryz.prog 208 #[] w fun e w' => e = .returned (partV 0 .entry) ∧ Ext w w' := by
 have HM := Hd (Mem.start0 w); go_enter Tryz.func208, Tryz.ntmps208
 have fM := HM.out.fa; go_wp2_with fail; all_goals clear fM
 refine nxt HM fun w1 M => ?_
 replace HM := M; clear M; obtain ⟨Ahb, hb⟩ := HM.out.get (r := cellsR w.heap.size 219 [.func (.func 267) #[] #[], .func (.func 268) #[] #[], .func (.func 270) #[] #[], .func (.func 271) #[] #[]]) pk; have hc := hb.2.reads.1; clear hb; refine bodyPost_ret (v := partV 0 .entry) (by simp [results, Tryz.results208, go_sem, hc, partCells, partV, fnV]) rfl ⟨rfl, HM.out.extTo⟩
theorem made_number (w : World) (least : Int) : Calls Tryz.prog 204 #[.int .i64 least] w fun e w' => ∃ k, e = .returned (partV k (.number least)) ∧ Upd NoB w w' (cellsR k 2 [.int .i64 least]) := by
 have HM := Hd (Mem.start0 w); go_enter Tryz.func204, Tryz.ntmps204
 have fM := HM.out.fa; go_wp2_with fail; all_goals clear fM
 refine nxt HM fun w1 M => ?_
 replace HM := M; clear M; obtain ⟨Ahb, hb⟩ := HM.out.get (r := cellsR (w.heap.size + 1) 219 [.func (.func 248) #[] #[], .func (.func 249) #[] #[.pointer (some ⟨w.heap.size, 0, none⟩)], .func (.func 251) #[] #[], .func (.func 252) #[] #[]]) pk; have hc := hb.2.reads.1; clear hb; refine bodyPost_ret (v := partV w.heap.size (.number least)) (by simp [results, Tryz.results204, go_sem, hc, partCells, partV, fnV]) rfl ⟨_, rfl, (HM.out.pick (r := cellsR w.heap.size 2 [.int .i64 least]) pk).upd⟩
theorem of_any (w : World) (v : Value) (a : Option Addr) (n c : Nat) (hv : v = .slice a n c) : Calls Tryz.prog 201 #[v] w fun e w' => e = .returned v ∧ w' = w := by
 subst hv; go_enter Tryz.func201, Tryz.ntmps201
 go_wp2_with fail; go_ret; exact ⟨rfl, rfl⟩
def mapR (m : Nat) (D : List (Int × Value)) : Res := anyR (fun F w => (∀ k, F k ↔ k = m) ∧ MapI w m D) (fun h hk hs => ⟨h.1, h.2.keeps hk (hs _ ((h.1 _).2 rfl))⟩) (fun h k hk => by rw [(h.1 k).1 hk]; exact h.2.lt)
theorem Mem.mapNew {F : Nat → Prop} {w0 w : World} {L : List Res} (h : Mem F w0 w L) : Mem F w0 (w.alloc (.map #[] 0)) (mapR w.heap.size [] :: L) :=
 h.new (r := mapR w.heap.size []) (G := fun k => k = w.heap.size) ((Keeps.refl _ _).alloc _) ⟨fun _ => Iff.rfl, mapi_new w⟩ (fun k hk => by omega)
theorem Mem.mapPut {F : Nat → Prop} {w0 w : World} {L : List Res} {m : Nat} {D : List (Int × Value)} (h : Mem F w0 w (mapR m D :: L)) {n : Int} (hn : I64 n) (hne : ∀ p ∈ D, p.1 ≠ n) (v : Value) :
 ∃ w', (Instr.mapUpdate 213 (.map (some m)) (.int .i64 n) v).run Tryz.prog w = .ok () w' ∧ Mem F w0 w' (mapR m (D ++ [(n, v)]) :: L) := by
 obtain ⟨A, hA, hS⟩ := h.step; obtain ⟨w', h1, h2, h3⟩ := hA.2.put Tryz.underlying213 Tryz.underlying32 hn hne v; exact ⟨w', h1, hS _ _ ⟨A, ⟨hA.1, h2⟩, h3.mono fun k _ hk => (hA.1 k).2 hk, fun k hk => .inl hk⟩⟩
def kindsE (q1 q4 q5 q7 q8 q9 q10 q11 q12 : Nat) : List (Int × Value) := [(1, .slice (some ⟨q1, 0, none⟩) 2 2), (2, .slice none 0 0), (3, .slice none 0 0), (4, .slice (some ⟨q4, 0, none⟩) 2 2), (5, .slice (some ⟨q5, 0, none⟩) 1 1), (6, .slice none 0 0), (7, .slice (some ⟨q7, 0, none⟩) 1 1), (8, .slice (some ⟨q8, 0, none⟩) 2 2), (9, .slice (some ⟨q9, 0, none⟩) 3 3), (10, .slice (some ⟨q10, 0, none⟩) 2 2), (11, .slice (some ⟨q11, 0, none⟩) 2 2), (12, .slice (some ⟨q12, 0, none⟩) 1 1)]
abbrev kindsL (m q1 q4 q5 q7 q8 q9 q10 q11 q12 k1 k0 : Nat) : List Res := [mapR m [(1, .slice (some ⟨q1, 0, none⟩) 2 2), (2, .slice none 0 0), (3, .slice none 0 0), (4, .slice (some ⟨q4, 0, none⟩) 2 2), (5, .slice (some ⟨q5, 0, none⟩) 1 1), (6, .slice none 0 0), (7, .slice (some ⟨q7, 0, none⟩) 1 1), (8, .slice (some ⟨q8, 0, none⟩) 2 2), (9, .slice (some ⟨q9, 0, none⟩) 3 3), (10, .slice (some ⟨q10, 0, none⟩) 2 2), (11, .slice (some ⟨q11, 0, none⟩) 2 2), (12, .slice (some ⟨q12, 0, none⟩) 1 1)], cellsR q1 219 [.func (.func 237) #[] #[], .func (.func 238) #[] #[], .func (.func 240) #[] #[], .func (.func 241) #[] #[], .func (.func 242) #[] #[], .func (.func 243) #[] #[], .func (.func 244) #[] #[], .func (.func 246) #[] #[]], cellsR q4 219 [.func (.func 248) #[] #[], .func (.func 249) #[] #[.pointer (some ⟨k1, 0, none⟩)], .func (.func 251) #[] #[], .func (.func 252) #[] #[], .func (.func 253) #[] #[], .func (.func 254) #[] #[], .func (.func 255) #[] #[], .func (.func 256) #[] #[]], cellsR q5 219 [.func (.func 257) #[] #[], .func (.func 258) #[] #[], .func (.func 259) #[] #[], .func (.func 260) #[] #[]], cellsR q7 219 [.func (.func 261) #[] #[], .func (.func 262) #[] #[], .func (.func 263) #[] #[], .func (.func 265) #[] #[]], cellsR q8 219 [.func (.func 257) #[] #[], .func (.func 258) #[] #[], .func (.func 259) #[] #[], .func (.func 260) #[] #[], .func (.func 242) #[] #[], .func (.func 243) #[] #[], .func (.func 244) #[] #[], .func (.func 246) #[] #[]], cellsR q9 219 [.func (.func 257) #[] #[], .func (.func 258) #[] #[], .func (.func 259) #[] #[], .func (.func 260) #[] #[], .func (.func 242) #[] #[], .func (.func 243) #[] #[], .func (.func 244) #[] #[], .func (.func 246) #[] #[], .func (.func 267) #[] #[], .func (.func 268) #[] #[], .func (.func 270) #[] #[], .func (.func 271) #[] #[]], cellsR q10 219 [.func (.func 237) #[] #[], .func (.func 238) #[] #[], .func (.func 240) #[] #[], .func (.func 241) #[] #[], .func (.func 261) #[] #[], .func (.func 262) #[] #[], .func (.func 263) #[] #[], .func (.func 265) #[] #[]], cellsR q11 219 [.func (.func 237) #[] #[], .func (.func 238) #[] #[], .func (.func 240) #[] #[], .func (.func 241) #[] #[], .func (.func 261) #[] #[], .func (.func 262) #[] #[], .func (.func 263) #[] #[], .func (.func 265) #[] #[]], cellsR q12 219 [.func (.func 248) #[] #[], .func (.func 249) #[] #[.pointer (some ⟨k0, 0, none⟩)], .func (.func 251) #[] #[], .func (.func 252) #[] #[]], cellsR k1 2 [.int .i64 1], cellsR k0 2 [.int .i64 0]]
def kindsR (m : Nat) : Res := anyR (fun F w => ∃ q1 q4 q5 q7 q8 q9 q10 q11 q12 k1 k0, SepL (kindsL m q1 q4 q5 q7 q8 q9 q10 q11 q12 k1 k0) F w)
 (fun h hk hs => let ⟨a, b, c, d, e, f, g, i, j, k, l, h⟩ := h; ⟨a, b, c, d, e, f, g, i, j, k, l, h.keeps hk hs⟩) (fun h => let ⟨a, b, c, d, e, f, g, i, j, k, l, h⟩ := h; h.lt)
def pcs (k : Nat) (ps : List Part) : List Value := (ps.map (partCells k)).flatten
def PartsV (F : Nat → Prop) (w : World) (v : Value) (ps : List Part) : Prop :=
 ∃ k, (∀ least, Part.number least ∈ ps → F k ∧ Box w k 2 [.int .i64 least]) ∧ ((ps = [] ∧ v = .slice none 0 0) ∨ ∃ q, F q ∧ v = .slice (some ⟨q, 0, none⟩) ps.length ps.length ∧ Box w q 219 (pcs k ps))
theorem PartsV.keeps {F S : Nat → Prop} {w w' : World} {v : Value} {ps : List Part} (h : PartsV F w v ps) (hk : Keeps S w w') (hs : ∀ k, F k → ¬ S k) : PartsV F w' v ps := by
 obtain ⟨k, h1, h2⟩ := h; refine ⟨k, fun l hl => ⟨(h1 l hl).1, (h1 l hl).2.keeps hk (hs _ (h1 l hl).1)⟩, h2.imp id ?_⟩; rintro ⟨q, g1, g2, g3⟩; exact ⟨q, g1, g2, g3.keeps hk (hs _ g1)⟩
def partsR (v : Value) (ps : List Part) : Res := anyR (fun F w => PartsV F w v ps ∧ ∀ k, F k → k < w.heap.size) (fun h hk hs => ⟨h.1.keeps hk hs, fun k hF => Nat.lt_of_lt_of_le (h.2 k hF) hk.size⟩) (fun h => h.2)
theorem zeroP (w : World) : (zeroValue 211).run Tryz.prog w = .ok (.slice none 0 0) w := by kernel_rfl
theorem look_kindsE (q1 q4 q5 q7 q8 q9 q10 q11 q12 : Nat) (n : Int) : (lookI (kindsE q1 q4 q5 q7 q8 q9 q10 q11 q12) n (.slice none 0 0)) =
 if n = 1 then (.slice (some ⟨q1, 0, none⟩) 2 2, true) else if n = 2 then (.slice none 0 0, true) else if n = 3 then (.slice none 0 0, true) else if n = 4 then (.slice (some ⟨q4, 0, none⟩) 2 2, true) else if n = 5 then (.slice (some ⟨q5, 0, none⟩) 1 1, true)
 else if n = 6 then (.slice none 0 0, true) else if n = 7 then (.slice (some ⟨q7, 0, none⟩) 1 1, true) else if n = 8 then (.slice (some ⟨q8, 0, none⟩) 2 2, true) else if n = 9 then (.slice (some ⟨q9, 0, none⟩) 3 3, true)
 else if n = 10 then (.slice (some ⟨q10, 0, none⟩) 2 2, true) else if n = 11 then (.slice (some ⟨q11, 0, none⟩) 2 2, true) else if n = 12 then (.slice (some ⟨q12, 0, none⟩) 1 1, true) else (.slice none 0 0, false) := by
 unfold lookI kindsE; by_cases h1 : n = 1
 · subst h1; rfl
 by_cases h2 : n = 2
 · subst h2; rfl
 by_cases h3 : n = 3
 · subst h3; rfl
 by_cases h4 : n = 4
 · subst h4; rfl
 by_cases h5 : n = 5
 · subst h5; rfl
 by_cases h6 : n = 6
 · subst h6; rfl
 by_cases h7 : n = 7
 · subst h7; rfl
 by_cases h8 : n = 8
 · subst h8; rfl
 by_cases h9 : n = 9
 · subst h9; rfl
 by_cases h10 : n = 10
 · subst h10; rfl
 by_cases h11 : n = 11
 · subst h11; rfl
 by_cases h12 : n = 12
 · subst h12; rfl
 have g := fun (k : Int) (h : ¬ n = k) => show ¬ k = n from fun e => h e.symm
 simp [h1, h2, h3, h4, h5, h6, h7, h8, h9, h10, h11, h12, g 1 h1, g 2 h2, g 3 h3, g 4 h4, g 5 h5, g 6 h6, g 7 h7, g 8 h8, g 9 h9, g 10 h10, g 11 h11, g 12 h12]
theorem SepL.box {w : World} : ∀ {L : List Res} {F : Nat → Prop} {L' : List Res} {b : Nat} {t : TypeId} {cs : List Value}, SepL L F w → Pick L (cellsR b t cs) L' → F b ∧ Box w b t cs := fun h p => by
 obtain ⟨A, B, h1, h2, h3, h4⟩ := p.sep h; exact ⟨(h4 _).2 (.inl ((h1.1 _).2 rfl)), h1.2⟩
theorem kinds_look {F : Nat → Prop} {w : World} {m : Nat} (h : (kindsR m).p F w) (n : Int) (hn : I64 n) (ok : Bool) :
 ∃ v, (Instr.lookup 213 (.map (some m)) (.int .i64 n) ok).run Tryz.prog w = .ok (if ok then .tuple #[v, .bool (partsOf n).isSome] else v) w ∧ (partsR v ((partsOf n).getD [])).p F w := by
 obtain ⟨q1, q4, q5, q7, q8, q9, q10, q11, q12, k1, k0, h⟩ := h; have hlt := h.lt
 have hm : MapI w m (kindsE q1 q4 q5 q7 q8 q9 q10 q11 q12) := by
  obtain ⟨A, B, h1, -, -, -⟩ := h; exact h1.2
 have hl := hm.look Tryz.underlying213 Tryz.underlying32 zeroP hn (by unfold kindsE; simp) ok; rw [look_kindsE] at hl; have hb := fun {L' : List Res} {b : Nat} {t : TypeId} {cs : List Value} (p : Pick (kindsL m q1 q4 q5 q7 q8 q9 q10 q11 q12 k1 k0) (cellsR b t cs) L') => h.box p
 have b1 := hb (b := q1) (by repeat first | exact ph | apply pt); have b4 := hb (b := q4) (by repeat first | exact ph | apply pt); have b5 := hb (b := q5) (by repeat first | exact ph | apply pt); have b7 := hb (b := q7) (by repeat first | exact ph | apply pt); have b8 := hb (b := q8) (by repeat first | exact ph | apply pt); have b9 := hb (b := q9) (by repeat first | exact ph | apply pt); have b10 := hb (b := q10) (by repeat first | exact ph | apply pt); have b11 := hb (b := q11) (by repeat first | exact ph | apply pt); have b12 := hb (b := q12) (by repeat first | exact ph | apply pt); have bk1 := hb (b := k1) (by repeat first | exact ph | apply pt); have bk0 := hb (b := k0) (by repeat first | exact ph | apply pt); clear hb hm h hn; unfold partsOf; have nil : ∀ v : Value, v = .slice none 0 0 → (partsR v []).p F w := fun v hv => ⟨⟨0, ⟨fun _ h => (by simp at h), .inl ⟨rfl, hv⟩⟩⟩, hlt⟩
 have some' : ∀ (k q : Nat) (ps : List Part) (n : Nat), ps.length = n → (∀ least, Part.number least ∈ ps → F k ∧ Box w k 2 [.int .i64 least]) → F q → Box w q 219 (pcs k ps) → (partsR (.slice (some ⟨q, 0, none⟩) n n) ps).p F w :=
  fun k q ps n hn h1 h2 h3 => ⟨⟨k, ⟨h1, .inr ⟨q, h2, by rw [hn], h3⟩⟩⟩, hlt⟩
 by_cases h1 : n = 1
 · rw [if_pos h1] at hl ⊢; exact ⟨_, hl, some' 0 q1 _ 2 rfl (by simp) b1.1 b1.2⟩
 by_cases h2 : n = 2
 · rw [if_neg h1, if_pos h2] at hl ⊢; exact ⟨_, hl, nil _ rfl⟩
 by_cases h3 : n = 3
 · rw [if_neg h1, if_neg h2, if_pos h3] at hl ⊢; exact ⟨_, hl, nil _ rfl⟩
 by_cases h4 : n = 4
 · rw [if_neg h1, if_neg h2, if_neg h3, if_pos h4] at hl ⊢; exact ⟨_, hl, some' k1 q4 _ 2 rfl (fun l hl => by simp at hl; subst hl; exact bk1) b4.1 b4.2⟩
 by_cases h5 : n = 5
 · rw [if_neg h1, if_neg h2, if_neg h3, if_neg h4, if_pos h5] at hl ⊢; exact ⟨_, hl, some' 0 q5 _ 1 rfl (by simp) b5.1 b5.2⟩
 by_cases h6 : n = 6
 · rw [if_neg h1, if_neg h2, if_neg h3, if_neg h4, if_neg h5, if_pos h6] at hl ⊢; exact ⟨_, hl, nil _ rfl⟩
 by_cases h7 : n = 7
 · rw [if_neg h1, if_neg h2, if_neg h3, if_neg h4, if_neg h5, if_neg h6, if_pos h7] at hl ⊢; exact ⟨_, hl, some' 0 q7 _ 1 rfl (by simp) b7.1 b7.2⟩
 by_cases h8 : n = 8
 · rw [if_neg h1, if_neg h2, if_neg h3, if_neg h4, if_neg h5, if_neg h6, if_neg h7, if_pos h8] at hl ⊢; exact ⟨_, hl, some' 0 q8 _ 2 rfl (by simp) b8.1 b8.2⟩
 by_cases h9 : n = 9
 · rw [if_neg h1, if_neg h2, if_neg h3, if_neg h4, if_neg h5, if_neg h6, if_neg h7, if_neg h8, if_pos h9] at hl ⊢; exact ⟨_, hl, some' 0 q9 _ 3 rfl (by simp) b9.1 b9.2⟩
 by_cases h10 : n = 10
 · rw [if_neg h1, if_neg h2, if_neg h3, if_neg h4, if_neg h5, if_neg h6, if_neg h7, if_neg h8, if_neg h9, if_pos h10] at hl ⊢; exact ⟨_, hl, some' 0 q10 _ 2 rfl (by simp) b10.1 b10.2⟩
 by_cases h11 : n = 11
 · rw [if_neg h1, if_neg h2, if_neg h3, if_neg h4, if_neg h5, if_neg h6, if_neg h7, if_neg h8, if_neg h9, if_neg h10, if_pos h11] at hl ⊢; exact ⟨_, hl, some' 0 q11 _ 2 rfl (by simp) b11.1 b11.2⟩
 by_cases h12 : n = 12
 · rw [if_neg h1, if_neg h2, if_neg h3, if_neg h4, if_neg h5, if_neg h6, if_neg h7, if_neg h8, if_neg h9, if_neg h10, if_neg h11, if_pos h12] at hl ⊢; exact ⟨_, hl, some' k0 q12 _ 1 rfl (fun l hl => by simp at hl; subst hl; exact bk0) b12.1 b12.2⟩
 · rw [if_neg h1, if_neg h2, if_neg h3, if_neg h4, if_neg h5, if_neg h6, if_neg h7, if_neg h8, if_neg h9, if_neg h10, if_neg h11, if_neg h12] at hl ⊢; exact ⟨_, hl, nil _ rfl⟩
theorem kinds_any (w : World) : Calls Tryz.prog 149 #[] w fun e w' => ∃ m, e = .returned (.map (some m)) ∧ Upd NoB w w' (kindsR m) := by
 have HM := Hd (Mem.start0 w); have hmm := run_makeMap (P := Tryz.prog) 213 w; go_enter Tryz.func149, Tryz.ntmps149
 go_wp2_with fail; refine Mem.call HM.out.mapNew fun w1 M => ?_
 clear hmm; obtain ⟨m, hm⟩ : ∃ m, w.heap.size = m := ⟨_, rfl⟩; rw [hm] at M ⊢; clear hm; replace HM := Hd M; clear M; refine (made_member _).mono ?_; rintro e w9 ⟨rfl, hE⟩; replace HM := Hd (HM.out.ext hE); clear hE; simp only [partV, partCells, fnV]; have fM := HM.out.fa; go_wp2_with fail; all_goals clear fM
 refine (made_token _).mono ?_; rintro e w9 ⟨rfl, hE⟩; replace HM := Hd (HM.out.ext hE); clear hE; simp only [partV, partCells, fnV]; have fM := HM.out.fa; go_wp2_with fail; all_goals clear fM
 obtain ⟨q1, hq1⟩ : ∃ q, w9.heap.size = q := ⟨_, rfl⟩; refine nxt HM fun w9 M => ?_
 replace HM := M; clear M; rw [hq1] at HM ⊢; clear hq1; refine cret (of_any _ _ _ _ _ rfl) ?_; obtain ⟨w8, hr, hm⟩ := (HM.out.pick (r := mapR m _) (by with_reducible repeat first | exact ph | apply pt)).mapPut (n := 1) (i64_lit _ rfl) (by simp) (.slice (some ⟨q1, 0, none⟩) 2 2); simp only [List.cons_append, List.nil_append] at hm; replace HM := Hd hm; clear hm; have fM := HM.out.fa; go_wp2_with fail; all_goals clear fM
 clear hr; refine nxt HM fun w9 M => ?_
 replace HM := M; clear M; refine cret (of_any _ _ _ _ _ rfl) ?_; obtain ⟨w8, hr, hm⟩ := (HM.out.pick (r := mapR m _) (by with_reducible repeat first | exact ph | apply pt)).mapPut (n := 2) (i64_lit _ rfl) (by simp) (.slice none 0 0); simp only [List.cons_append, List.nil_append] at hm; replace HM := Hd hm; clear hm; have fM := HM.out.fa; go_wp2_with fail; all_goals clear fM
 clear hr; refine nxt HM fun w9 M => ?_
 replace HM := M; clear M; refine cret (of_any _ _ _ _ _ rfl) ?_; obtain ⟨w8, hr, hm⟩ := (HM.out.pick (r := mapR m _) (by with_reducible repeat first | exact ph | apply pt)).mapPut (n := 3) (i64_lit _ rfl) (by simp) (.slice none 0 0); simp only [List.cons_append, List.nil_append] at hm; replace HM := Hd hm; clear hm; have fM := HM.out.fa; go_wp2_with fail; all_goals clear fM
 clear hr; refine (made_number _ 1).mono ?_; rintro e w9 ⟨kn1, rfl, hU⟩; obtain ⟨F2, u1, u2, u3⟩ := hU; replace HM := Hd (HM.out.new (G := F2) u2 u1 (fun k hk => (u3 k hk).elim (fun h => (noB _ h).elim) id)); clear u1 u2 u3 F2; simp only [partV, partCells, fnV]; have fM := HM.out.fa; go_wp2_with fail; all_goals clear fM
 refine (made_said _).mono ?_; rintro e w9 ⟨rfl, hE⟩; replace HM := Hd (HM.out.ext hE); clear hE; simp only [partV, partCells, fnV]; have fM := HM.out.fa; go_wp2_with fail; all_goals clear fM
 obtain ⟨q4, hq4⟩ : ∃ q, w9.heap.size = q := ⟨_, rfl⟩; refine nxt HM fun w9 M => ?_
 replace HM := M; clear M; rw [hq4] at HM ⊢; clear hq4; refine cret (of_any _ _ _ _ _ rfl) ?_; obtain ⟨w8, hr, hm⟩ := (HM.out.pick (r := mapR m _) (by with_reducible repeat first | exact ph | apply pt)).mapPut (n := 4) (i64_lit _ rfl) (by simp) (.slice (some ⟨q4, 0, none⟩) 2 2); simp only [List.cons_append, List.nil_append] at hm; replace HM := Hd hm; clear hm; have fM := HM.out.fa; go_wp2_with fail; all_goals clear fM
 clear hr; refine (made_index _).mono ?_; rintro e w9 ⟨rfl, hE⟩; replace HM := Hd (HM.out.ext hE); clear hE; simp only [partV, partCells, fnV]; have fM := HM.out.fa; go_wp2_with fail; all_goals clear fM
 obtain ⟨q5, hq5⟩ : ∃ q, w9.heap.size = q := ⟨_, rfl⟩; refine nxt HM fun w9 M => ?_
 replace HM := M; clear M; rw [hq5] at HM ⊢; clear hq5; refine cret (of_any _ _ _ _ _ rfl) ?_; obtain ⟨w8, hr, hm⟩ := (HM.out.pick (r := mapR m _) (by with_reducible repeat first | exact ph | apply pt)).mapPut (n := 5) (i64_lit _ rfl) (by simp) (.slice (some ⟨q5, 0, none⟩) 1 1); simp only [List.cons_append, List.nil_append] at hm; replace HM := Hd hm; clear hm; have fM := HM.out.fa; go_wp2_with fail; all_goals clear fM
 clear hr; refine nxt HM fun w9 M => ?_
 replace HM := M; clear M; refine cret (of_any _ _ _ _ _ rfl) ?_; obtain ⟨w8, hr, hm⟩ := (HM.out.pick (r := mapR m _) (by with_reducible repeat first | exact ph | apply pt)).mapPut (n := 6) (i64_lit _ rfl) (by simp) (.slice none 0 0); simp only [List.cons_append, List.nil_append] at hm; replace HM := Hd hm; clear hm; have fM := HM.out.fa; go_wp2_with fail; all_goals clear fM
 clear hr; refine (made_is _).mono ?_; rintro e w9 ⟨rfl, hE⟩; replace HM := Hd (HM.out.ext hE); clear hE; simp only [partV, partCells, fnV]; have fM := HM.out.fa; go_wp2_with fail; all_goals clear fM
 obtain ⟨q7, hq7⟩ : ∃ q, w9.heap.size = q := ⟨_, rfl⟩; refine nxt HM fun w9 M => ?_
 replace HM := M; clear M; rw [hq7] at HM ⊢; clear hq7; refine cret (of_any _ _ _ _ _ rfl) ?_; obtain ⟨w8, hr, hm⟩ := (HM.out.pick (r := mapR m _) (by with_reducible repeat first | exact ph | apply pt)).mapPut (n := 7) (i64_lit _ rfl) (by simp) (.slice (some ⟨q7, 0, none⟩) 1 1); simp only [List.cons_append, List.nil_append] at hm; replace HM := Hd hm; clear hm; have fM := HM.out.fa; go_wp2_with fail; all_goals clear fM
 clear hr; refine (made_index _).mono ?_; rintro e w9 ⟨rfl, hE⟩; replace HM := Hd (HM.out.ext hE); clear hE; simp only [partV, partCells, fnV]; have fM := HM.out.fa; go_wp2_with fail; all_goals clear fM
 refine (made_token _).mono ?_; rintro e w9 ⟨rfl, hE⟩; replace HM := Hd (HM.out.ext hE); clear hE; simp only [partV, partCells, fnV]; have fM := HM.out.fa; go_wp2_with fail; all_goals clear fM
 obtain ⟨q8, hq8⟩ : ∃ q, w9.heap.size = q := ⟨_, rfl⟩; refine nxt HM fun w9 M => ?_
 replace HM := M; clear M; rw [hq8] at HM ⊢; clear hq8; refine cret (of_any _ _ _ _ _ rfl) ?_; obtain ⟨w8, hr, hm⟩ := (HM.out.pick (r := mapR m _) (by with_reducible repeat first | exact ph | apply pt)).mapPut (n := 8) (i64_lit _ rfl) (by simp) (.slice (some ⟨q8, 0, none⟩) 2 2); simp only [List.cons_append, List.nil_append] at hm; replace HM := Hd hm; clear hm; have fM := HM.out.fa; go_wp2_with fail; all_goals clear fM
 clear hr; refine (made_index _).mono ?_; rintro e w9 ⟨rfl, hE⟩; replace HM := Hd (HM.out.ext hE); clear hE; simp only [partV, partCells, fnV]; have fM := HM.out.fa; go_wp2_with fail; all_goals clear fM
 refine (made_token _).mono ?_; rintro e w9 ⟨rfl, hE⟩; replace HM := Hd (HM.out.ext hE); clear hE; simp only [partV, partCells, fnV]; have fM := HM.out.fa; go_wp2_with fail; all_goals clear fM
 refine (made_entry _).mono ?_; rintro e w9 ⟨rfl, hE⟩; replace HM := Hd (HM.out.ext hE); clear hE; simp only [partV, partCells, fnV]; have fM := HM.out.fa; go_wp2_with fail; all_goals clear fM
 obtain ⟨q9, hq9⟩ : ∃ q, w9.heap.size = q := ⟨_, rfl⟩; refine nxt HM fun w9 M => ?_
 replace HM := M; clear M; rw [hq9] at HM ⊢; clear hq9; refine cret (of_any _ _ _ _ _ rfl) ?_; obtain ⟨w8, hr, hm⟩ := (HM.out.pick (r := mapR m _) (by with_reducible repeat first | exact ph | apply pt)).mapPut (n := 9) (i64_lit _ rfl) (by simp) (.slice (some ⟨q9, 0, none⟩) 3 3); simp only [List.cons_append, List.nil_append] at hm; replace HM := Hd hm; clear hm; have fM := HM.out.fa; go_wp2_with fail; all_goals clear fM
 clear hr; refine (made_member _).mono ?_; rintro e w9 ⟨rfl, hE⟩; replace HM := Hd (HM.out.ext hE); clear hE; simp only [partV, partCells, fnV]; have fM := HM.out.fa; go_wp2_with fail; all_goals clear fM
 refine (made_is _).mono ?_; rintro e w9 ⟨rfl, hE⟩; replace HM := Hd (HM.out.ext hE); clear hE; simp only [partV, partCells, fnV]; have fM := HM.out.fa; go_wp2_with fail; all_goals clear fM
 obtain ⟨q10, hq10⟩ : ∃ q, w9.heap.size = q := ⟨_, rfl⟩; refine nxt HM fun w9 M => ?_
 replace HM := M; clear M; rw [hq10] at HM ⊢; clear hq10; refine cret (of_any _ _ _ _ _ rfl) ?_; obtain ⟨w8, hr, hm⟩ := (HM.out.pick (r := mapR m _) (by with_reducible repeat first | exact ph | apply pt)).mapPut (n := 10) (i64_lit _ rfl) (by simp) (.slice (some ⟨q10, 0, none⟩) 2 2); simp only [List.cons_append, List.nil_append] at hm; replace HM := Hd hm; clear hm; have fM := HM.out.fa; go_wp2_with fail; all_goals clear fM
 clear hr; refine (made_member _).mono ?_; rintro e w9 ⟨rfl, hE⟩; replace HM := Hd (HM.out.ext hE); clear hE; simp only [partV, partCells, fnV]; have fM := HM.out.fa; go_wp2_with fail; all_goals clear fM
 refine (made_is _).mono ?_; rintro e w9 ⟨rfl, hE⟩; replace HM := Hd (HM.out.ext hE); clear hE; simp only [partV, partCells, fnV]; have fM := HM.out.fa; go_wp2_with fail; all_goals clear fM
 obtain ⟨q11, hq11⟩ : ∃ q, w9.heap.size = q := ⟨_, rfl⟩; refine nxt HM fun w9 M => ?_
 replace HM := M; clear M; rw [hq11] at HM ⊢; clear hq11; refine cret (of_any _ _ _ _ _ rfl) ?_; obtain ⟨w8, hr, hm⟩ := (HM.out.pick (r := mapR m _) (by with_reducible repeat first | exact ph | apply pt)).mapPut (n := 11) (i64_lit _ rfl) (by simp) (.slice (some ⟨q11, 0, none⟩) 2 2); simp only [List.cons_append, List.nil_append] at hm; replace HM := Hd hm; clear hm; have fM := HM.out.fa; go_wp2_with fail; all_goals clear fM
 clear hr; refine (made_number _ 0).mono ?_; rintro e w9 ⟨kn0, rfl, hU⟩; obtain ⟨F2, u1, u2, u3⟩ := hU; replace HM := Hd (HM.out.new (G := F2) u2 u1 (fun k hk => (u3 k hk).elim (fun h => (noB _ h).elim) id)); clear u1 u2 u3 F2; simp only [partV, partCells, fnV]; have fM := HM.out.fa; go_wp2_with fail; all_goals clear fM
 obtain ⟨q12, hq12⟩ : ∃ q, w9.heap.size = q := ⟨_, rfl⟩; refine nxt HM fun w9 M => ?_
 replace HM := M; clear M; rw [hq12] at HM ⊢; clear hq12; refine cret (of_any _ _ _ _ _ rfl) ?_; obtain ⟨w8, hr, hm⟩ := (HM.out.pick (r := mapR m _) (by with_reducible repeat first | exact ph | apply pt)).mapPut (n := 12) (i64_lit _ rfl) (by simp) (.slice (some ⟨q12, 0, none⟩) 1 1); simp only [List.cons_append, List.nil_append] at hm; replace HM := Hd hm; clear hm; have fM := HM.out.fa; go_wp2_with fail; all_goals clear fM
 clear hr; go_ret; refine ⟨m, rfl, ?_⟩; have hs := Mem.sub HM.out (L' := kindsL m q1 q4 q5 q7 q8 q9 q10 q11 q12 kn1 kn0) sbI; exact (Mem.close (L1 := kindsL m q1 q4 q5 q7 q8 q9 q10 q11 q12 kn1 kn0) (L := []) (r := kindsR m) hs fun A hA => ⟨_, _, _, _, _, _, _, _, _, _, _, hA⟩).upd
def clearF : Part → Nat
 | .member => 237
 | .number _ => 248
 | .index => 257
 | .is => 261
 | .said => 253
 | .token => 242
 | .entry => 267
theorem clear_member {A : Nat → Prop} (w : World) (b : Nat) (s : Sd) (h : (cellsR b 37 s.cells).p A w) :
 Calls Tryz.prog 237 #[.pointer (some ⟨b, 0, none⟩)] w fun e w' => e = .returned (.tuple #[]) ∧ Upd A w w' (cellsR b 37 ({ { s with member := 0 } with } : Sd).cells) := by
 have HM := Hd (Mem.start h); unfold Sd.cells at HM; clear h; go_enter Tryz.func237, Tryz.ntmps237
 have fM := HM.out.fa; go_wp2_with fail; all_goals clear fM
 go_end0
 refine ⟨rfl, ?_⟩; refine nxt HM fun w1 M => ?_
 replace HM := M; clear M; exact HM.out.upd
theorem clear_number {A : Nat → Prop} (w : World) (b : Nat) (s : Sd) (h : (cellsR b 37 s.cells).p A w) :
 Calls Tryz.prog 248 #[.pointer (some ⟨b, 0, none⟩)] w fun e w' => e = .returned (.tuple #[]) ∧ Upd A w w' (cellsR b 37 ({ { s with number := 0 } with } : Sd).cells) := by
 have HM := Hd (Mem.start h); unfold Sd.cells at HM; clear h; go_enter Tryz.func248, Tryz.ntmps248
 have fM := HM.out.fa; go_wp2_with fail; all_goals clear fM
 go_end0
 refine ⟨rfl, ?_⟩; refine nxt HM fun w1 M => ?_
 replace HM := M; clear M; exact HM.out.upd
theorem clear_index {A : Nat → Prop} (w : World) (b : Nat) (s : Sd) (h : (cellsR b 37 s.cells).p A w) :
 Calls Tryz.prog 257 #[.pointer (some ⟨b, 0, none⟩)] w fun e w' => e = .returned (.tuple #[]) ∧ Upd A w w' (cellsR b 37 ({ { s with index := 0 } with } : Sd).cells) := by
 have HM := Hd (Mem.start h); unfold Sd.cells at HM; clear h; go_enter Tryz.func257, Tryz.ntmps257
 have fM := HM.out.fa; go_wp2_with fail; all_goals clear fM
 go_end0
 refine ⟨rfl, ?_⟩; refine nxt HM fun w1 M => ?_
 replace HM := M; clear M; exact HM.out.upd
theorem clear_is {A : Nat → Prop} (w : World) (b : Nat) (s : Sd) (h : (cellsR b 37 s.cells).p A w) :
 Calls Tryz.prog 261 #[.pointer (some ⟨b, 0, none⟩)] w fun e w' => e = .returned (.tuple #[]) ∧ Upd A w w' (cellsR b 37 ({ { s with is := false } with } : Sd).cells) := by
 have HM := Hd (Mem.start h); unfold Sd.cells at HM; clear h; go_enter Tryz.func261, Tryz.ntmps261
 have fM := HM.out.fa; go_wp2_with fail; all_goals clear fM
 go_end0
 refine ⟨rfl, ?_⟩; refine nxt HM fun w1 M => ?_
 replace HM := M; clear M; exact HM.out.upd
theorem clear_said {A : Nat → Prop} (w : World) (b : Nat) (s : Sd) (h : (cellsR b 37 s.cells).p A w) :
 Calls Tryz.prog 253 #[.pointer (some ⟨b, 0, none⟩)] w fun e w' => e = .returned (.tuple #[]) ∧ Upd A w w' (cellsR b 37 ({ { s with text := [] } with } : Sd).cells) := by
 have HM := Hd (Mem.start h); unfold Sd.cells at HM; clear h; go_enter Tryz.func253, Tryz.ntmps253
 have fM := HM.out.fa; go_wp2_with fail; all_goals clear fM
 go_end0
 refine ⟨rfl, ?_⟩; refine nxt HM fun w1 M => ?_
 replace HM := M; clear M; exact HM.out.upd
theorem clear_token {A : Nat → Prop} (w : World) (b : Nat) (s : Sd) (h : (cellsR b 37 s.cells).p A w) :
 Calls Tryz.prog 242 #[.pointer (some ⟨b, 0, none⟩)] w fun e w' => e = .returned (.tuple #[]) ∧ Upd A w w' (cellsR b 37 ({ { s with token := [] } with } : Sd).cells) := by
 have HM := Hd (Mem.start h); unfold Sd.cells at HM; clear h; go_enter Tryz.func242, Tryz.ntmps242
 have fM := HM.out.fa; go_wp2_with fail; all_goals clear fM
 go_end0
 refine ⟨rfl, ?_⟩; refine nxt HM fun w1 M => ?_
 replace HM := M; clear M; exact HM.out.upd
theorem clear_entry {A : Nat → Prop} (w : World) (b : Nat) (s : Sd) (h : (cellsR b 37 s.cells).p A w) :
 Calls Tryz.prog 267 #[.pointer (some ⟨b, 0, none⟩)] w fun e w' => e = .returned (.tuple #[]) ∧ Upd A w w' (cellsR b 37 ({ { s with e := En0 } with } : Sd).cells) := by
 have HM := Hd (Mem.start h); unfold Sd.cells at HM; clear h; go_enter Tryz.func267, Tryz.ntmps267
 have fM := HM.out.fa; go_wp2_with fail; all_goals clear fM
 go_end0
 refine ⟨rfl, ?_⟩; refine nxt HM fun w1 M => ?_
 replace HM := M; clear M; exact HM.out.upd
theorem clear_any {A : Nat → Prop} (w : World) (b : Nat) (p : Part) (s : Sd) (h : (cellsR b 37 s.cells).p A w) :
 Calls Tryz.prog (clearF p) #[.pointer (some ⟨b, 0, none⟩)] w fun e w' => e = .returned (.tuple #[]) ∧ Upd A w w' (cellsR b 37 (p.clear s).cells) := by
 cases p
 · exact clear_member w b s h
 · exact clear_number w b s h
 · exact clear_index w b s h
 · exact clear_is w b s h
 · exact clear_said w b s h
 · exact clear_token w b s h
 · exact clear_entry w b s h
theorem in_int (w : World) (n a b : Int) : Calls Tryz.prog 239 #[.int .i64 n, .int .i64 a, .int .i64 b] w fun e w' => e = .returned (.bool (decide (a ≤ n ∧ n ≤ b))) ∧ w' = w := by
 by_cases h1 : a ≤ n
 · have e1 : decide (a ≤ n ∧ n ≤ b) = decide (n ≤ b) := by simp [h1]
   rw [e1]; clear e1; go_enter Tryz.func239, Tryz.ntmps239
   go_wp2_with fail; go_ret; exact ⟨rfl, rfl⟩
 · have e1 : decide (a ≤ n ∧ n ≤ b) = false := by simp [h1]
   rw [e1]; clear e1; go_enter Tryz.func239, Tryz.ntmps239
   go_wp2_with fail; go_ret; exact ⟨rfl, rfl⟩
theorem in_i64 (w : World) (n a b : Int) : Calls Tryz.prog 250 #[.int .i64 n, .int .i64 a, .int .i64 b] w fun e w' => e = .returned (.bool (decide (a ≤ n ∧ n ≤ b))) ∧ w' = w := by
 by_cases h1 : a ≤ n
 · have e1 : decide (a ≤ n ∧ n ≤ b) = decide (n ≤ b) := by simp [h1]
   rw [e1]; clear e1; go_enter Tryz.func250, Tryz.ntmps250
   go_wp2_with fail; go_ret; exact ⟨rfl, rfl⟩
 · have e1 : decide (a ≤ n ∧ n ≤ b) = false := by simp [h1]
   rw [e1]; clear e1; go_enter Tryz.func250, Tryz.ntmps250
   go_wp2_with fail; go_ret; exact ⟨rfl, rfl⟩
structure OkS (s : Sd) : Prop where
 ek : I64 s.e.kind
 text : s.text.length ≤ 9223372036854775807
 token : s.token.length ≤ 9223372036854775807
 etext : s.e.text.length ≤ 9223372036854775807
def mayF (k : Nat) : Part → Nat × Array Value
 | .member => (238, #[])
 | .number _ => (249, #[.pointer (some ⟨k, 0, none⟩)])
 | .index => (258, #[])
 | .is => (262, #[])
 | .said => (254, #[])
 | .token => (243, #[])
 | .entry => (268, #[])
theorem may_member (w : World) (s : Sd) : Calls Tryz.prog 238 #[s.v] w fun e w' => e = .returned (.bool (Part.may .member s)) ∧ Ext w w' := by
 have HM := Hd (Mem.start0 w); have HP := Hd (show Part.may .member s = decide (0 ≤ s.member ∧ s.member ≤ 15) from rfl); unfold Sd.v Sd.cells; go_enter Tryz.func238, Tryz.ntmps238
 have fM := HM.out.fa; go_wp2_with fail; all_goals clear fM
 refine nxt HM fun w1 M => ?_
 replace HM := M; clear M; refine cret (in_int _ s.member 0 15) ?_; rw [← HP.out]; go_wp2_with fail; go_ret; exact ⟨rfl, HM.out.extTo⟩
theorem may_index (w : World) (s : Sd) : Calls Tryz.prog 258 #[s.v] w fun e w' => e = .returned (.bool (Part.may .index s)) ∧ Ext w w' := by
 have HM := Hd (Mem.start0 w); have HP := Hd (show Part.may .index s = decide (0 ≤ s.index ∧ s.index ≤ 2147483647) from rfl); unfold Sd.v Sd.cells; go_enter Tryz.func258, Tryz.ntmps258
 have fM := HM.out.fa; go_wp2_with fail; all_goals clear fM
 refine nxt HM fun w1 M => ?_
 replace HM := M; clear M; refine cret (in_i64 _ s.index 0 2147483647) ?_; rw [← HP.out]; go_wp2_with fail; go_ret; exact ⟨rfl, HM.out.extTo⟩
theorem may_number (w : World) (k : Nat) (n : Int) (s : Sd) (hk : Box w k 2 [.int .i64 n]) : Calls Tryz.prog 249 #[s.v, .pointer (some ⟨k, 0, none⟩)] w fun e w' => e = .returned (.bool (Part.may (.number n) s)) ∧ Ext w w' := by
 have HM := Hd (Mem.start0 w); have HK := Hd hk; clear hk; have HP := Hd (show Part.may (.number n) s = decide (n ≤ s.number ∧ s.number ≤ 2147483647) from rfl); unfold Sd.v Sd.cells; go_enter Tryz.func249, Tryz.ntmps249
 have fM := HM.out.fa; have fMHK := (HK.out.ext HM.out.extTo).reads; have fLHK := (HK.out.ext HM.out.extTo).lt; go_wp2_with fail; all_goals clear fM fMHK fLHK
 refine nxt HM fun w1 M => ?_
 replace HM := M; clear M; refine cret (in_i64 _ s.number n 2147483647) ?_; rw [← HP.out]; go_wp2_with fail; go_ret; exact ⟨rfl, HM.out.extTo⟩
theorem may_is (w : World) (s : Sd) : Calls Tryz.prog 262 #[s.v] w fun e w' => e = .returned (.bool (Part.may .is s)) ∧ Ext w w' := by
 have HM := Hd (Mem.start0 w); unfold Sd.v Sd.cells Part.may; go_enter Tryz.func262, Tryz.ntmps262
 go_wp2_with fail; go_ret; exact ⟨rfl, HM.out.to.extTo⟩
theorem may_token (w : World) (s : Sd) (hs : s.token.length ≤ 9223372036854775807) : Calls Tryz.prog 243 #[s.v] w fun e w' => e = .returned (.bool (Part.may .token s)) ∧ Ext w w' := by
 have HM := Hd (Mem.start0 w); have hsz : (bs s.token).size = s.token.length := bs_size _; have hd : decide ((s.token.length : Int) ≤ 200) = decide (s.token.length ≤ 200) := by rw [decide_eq_decide]; omega
 have HD := Hd hd; clear hd; unfold Sd.v Sd.cells Part.may; go_enter Tryz.func243, Tryz.ntmps243
 have fM := HM.out.fa; go_wp2_with fail; all_goals clear fM
 go_ret; refine ⟨?_, HM.out.to.extTo⟩; first | rfl | (rw [← HD.out]; rfl) | (simp; done)
theorem may_said (W w : World) (hT : Tabs W) (hE : Ext W w) (s : Sd) (hs : s.text.length ≤ 9223372036854775807) : Calls Tryz.prog 254 #[s.v] w fun e w' => e = .returned (.bool (Part.may .said s)) ∧ Ext w w' := by
 have HM := Hd (Mem.start0 w); have HE := Hd hE; clear hE; have hd : ((chk s.text : Int) == 0) = (chk s.text == 0) := by rw [Bool.eq_iff_iff]; simp
 have HD := Hd hd; clear hd; unfold Sd.v Sd.cells Part.may; go_enter Tryz.func254, Tryz.ntmps254
 have fM := HM.out.fa; go_wp2_with fail; all_goals clear fM
 refine nxt HM fun w1 M => ?_
 replace HM := M; clear M; refine (check_chk W w1 hT (HE.out.ext HM.out.extTo) s.text hs).mono ?_; rintro e w2 ⟨rfl, hE2⟩; replace HM := Hd (HM.out.ext hE2); clear hE2; go_wp2_with fail; go_ret; refine ⟨?_, HM.out.extTo⟩; rw [← HD.out]; first | rfl | simp
theorem may_entry (W w : World) (hT : Tabs W) (hE : Ext W w) (s : Sd) (hk : I64 s.e.kind) (hs : s.e.text.length ≤ 9223372036854775807) : Calls Tryz.prog 268 #[s.v] w fun e w' => e = .returned (.bool (Part.may .entry s)) ∧ Ext w w' := by
 have HM := Hd (Mem.start0 w); have HE := Hd hE; clear hE; unfold Sd.v Sd.cells; by_cases h1 : s.e.kind = 1
 · have HP := Hd (show Part.may .entry s = false by show (decide (s.e.kind ≠ 1) && enB s.e) = false; rw [decide_eq_false (fun h => h h1), Bool.false_and])
   go_enter Tryz.func268, Tryz.ntmps268
   have fM := HM.out.fa; go_wp2_with fail; all_goals clear fM
   go_ret; rw [HP.out]; exact ⟨by first | rfl | simp, HM.out.to.extTo⟩
 · have HP := Hd (show Part.may .entry s = enB s.e by show (decide (s.e.kind ≠ 1) && enB s.e) = enB s.e; rw [decide_eq_true h1, Bool.true_and])
   have HV := Hd (show s.e.v = .agg #[.int .i64 s.e.kind, .int .i64 s.e.member, .int .i64 s.e.number, .string (bs s.e.text)] from rfl); go_enter Tryz.func268, Tryz.ntmps268
   have fM := HM.out.fa; go_wp2_with fail; all_goals clear fM
   refine nxt HM fun w1 M => ?_
   replace HM := M; clear M; rw [← HV.out]; refine (right_any w1 s.e hk (fun _ w2 h2 => check_chk W w2 hT ((HE.out.ext HM.out.extTo).ext h2) s.e.text hs)).mono ?_; rintro e w2 ⟨rfl, hE2⟩; replace HM := Hd (HM.out.ext hE2); clear hE2; go_wp2_with fail; go_ret; rw [HP.out]; exact ⟨by first | rfl | simp [h1], HM.out.extTo⟩
theorem may_any (W w : World) (hT : Tabs W) (hE : Ext W w) (k : Nat) (p : Part) (s : Sd) (hs : OkS s) (hk : ∀ n, p = .number n → Box w k 2 [.int .i64 n]) :
 Calls Tryz.prog (mayF k p).1 (#[s.v] ++ (mayF k p).2) w fun e w' => e = .returned (.bool (p.may s)) ∧ Ext w w' := by
 cases p
 · exact may_member w s
 · exact may_number w k _ s (hk _ rfl)
 · exact may_index w s
 · exact may_is w s
 · exact may_said W w hT hE s hs.text
 · exact may_token w s hs.token
 · exact may_entry W w hT hE s hs.ek hs.etext
end Go.Proofs.YtoadjbgpfihoiaaGreatDoor
