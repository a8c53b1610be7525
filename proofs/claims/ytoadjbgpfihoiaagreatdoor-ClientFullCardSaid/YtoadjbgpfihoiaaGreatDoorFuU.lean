/- Texts RangeR, RangeP, IterS, IterF, RR, RingI, one behind the other. Conditions: as each says. -/
import Derived.Test.YtoadjbgpfihoiaaGreatDoorFuL
import Derived.Test.YtoadjbgpfihoiaaGreatDoorFuM
set_option linter.unusedVariables false
set_option linter.unusedSimpArgs false
set_option maxHeartbeats 8000000
set_option maxRecDepth 100000
namespace Go.Proofs.YtoadjbgpfihoiaaGreatDoor
open Go.RowKit
section
instance gl10 (F : Fence) (n : Nat) (P : Program) (c : Code) (Q : Exit → Act → World → Prop) (a : Act) (w : World) : Gl (c.wpIn F n P Q a w) (fun w => c.wpIn F n P Q a w) w := ⟨id⟩
instance gl11 (F : Fence) (n : Nat) (P : Program) (fn : Func) (R : Ending → World → Prop) (e : Exit) (a : Act) (w : World) : Gl (bodyPostM F n P fn R e a w) (fun w => bodyPostM F n P fn R e a w) w := ⟨id⟩
def markR (D : Nat) : Res := anyR (fun F w => (∀ k, F k ↔ k = D) ∧ Mark w D) (fun h hk hs => ⟨h.1, h.2.keeps hk (hs D ((h.1 D).2 rfl))⟩) (fun h k hk => by rw [(h.1 k).1 hk]; exact h.2.lt)
def recR (L : Nat) (o : Loop) : Res := anyR (fun F w => (∀ k, F k ↔ k = L) ∧ w.heap[L]? = some (.loop o)) (fun h hk hs => ⟨h.1, (hk.block L (Array.getElem?_eq_some_iff.1 h.2).1 (hs L ((h.1 L).2 rfl))).trans h.2⟩)
 (fun h k hk => by rw [(h.1 k).1 hk]; exact (Array.getElem?_eq_some_iff.1 h.2).1)
def allR (L : List Res) : Res := anyR (fun F w => SepL L F w) (fun h hk hs => h.keeps hk hs) (fun h => h.lt)
def someR {α : Type} (R : α → Res) : Res := anyR (fun F w => ∃ c, (R c).p F w) (fun ⟨c, h⟩ hk hs => ⟨c, Res.keeps _ h hk hs⟩) (fun ⟨c, h⟩ => Res.lt _ h)
def In (A : Nat → Prop) (W : World) (F : Nat → Prop) (w : World) : Prop := Keeps A W w ∧ ∀ j, F j → A j ∨ W.heap.size ≤ j
theorem In.trans {A C F : Nat → Prop} {W w2 w3 : World} (h : In A W C w2) (k : In C w2 F w3) : In A W F w3 :=
 ⟨h.1.then k.1 fun i hi hC => (h.2 i hC).elim id fun g => absurd g (by omega), fun j hj => (k.2 j hj).elim (h.2 j) fun g => .inr (Nat.le_trans h.1.size g)⟩
structure XOK (X : (Nat → Prop) → World → Prop) : Prop where
 step : ∀ {A A' w w'}, X A w → Keeps A w w' → (∀ k, A' k → A k ∨ w.heap.size ≤ k) → X A' w'
def IterR {α : Type} (F : Fence) (n : Nat) (P : Program) (gf : Nat) (lb : Array Value) (xs : List α) (Rv : α → Array Value → (Nat → Prop) → World → Prop) (X : (Nat → Prop) → World → Prop) (Q Q' : Res) : Prop :=
 ∀ (l : Nat) (R Rx : Nat → Res) (W : World) (A : Nat → Prop), SepL [Q, R 0] A W → X A W →
   (∀ k (hk : k < xs.length) v W1 F1, In A W F1 W1 → (R k).p F1 W1 → Rv xs[k] v F1 W1 → YieldAt F (n - 1) P l v W1 fun e W' =>
    (e = .returned (.bool true) ∧ Upd F1 W1 W' (R (k + 1))) ∨ (e = .returned (.bool false) ∧ Upd F1 W1 W' (Rx (k + 1)))) →
   CallsIn F n P gf (#[.func (.yield l) #[] #[]] ++ lb) W fun e W' => (∃ v, e = .returned v) ∧ ∃ r : Res, (r = R xs.length ∨ ∃ k, k < xs.length ∧ r = Rx (k + 1)) ∧ Upd A W W' (allR [Q', r])
theorem Res.congr (r : Res) {F G : Nat → Prop} {w : World} (h : r.p F w) (hg : ∀ k, G k ↔ F k) : r.p G w := by
 have : G = F := funext fun k => propext (hg k)
 rw [this]; exact h
section
variable {F : Fence} {n : Nat} {P : Program}
end
section
variable {F : Fence} {n : Nat} {P : Program}
end
theorem roundIn_wide {P : Program} {n m l : Nat} {f : FuncId} {tmps : Array Value} {assign body : Code} {w : World} {R : Ending → World → Prop} (h : RoundIn Fence.wide n P l f tmps assign body w R) : RoundIn Fence.wide m P l f tmps assign body w R :=
 ⟨h.1, fun c cs _ => h.2 c cs (room_wide _)⟩
theorem Mem.beside {F : Nat → Prop} {w0 w : World} {L L1 L2 : List Res} {r x : Res} (h : Mem F w0 w L) (p : Pick L r L1) (q : Pick L1 x L2) :
 ∃ A B, r.p A w ∧ x.p B w ∧ (∀ k, B k → ¬ A k) ∧ In F w0 A w ∧ ∀ (r' : Res) (w' : World), Upd A w w' r' → Mem F w0 w' (r' :: L1) := by
 obtain ⟨a, G, ⟨A, B, h1, h2, h3, h4⟩, c⟩ := h.pick p; obtain ⟨C, D, h5, h6, h7, h8⟩ := q.sep h2; have hA := fun k hk => c k ((h4 k).2 (.inl hk))
 have hB := fun k hk => c k ((h4 k).2 (.inr hk))
 have hlt := h2.lt; refine ⟨A, C, h1, h5, fun k hC hA => h3 k hA ((h8 k).2 (.inl hC)), ⟨a, hA⟩, fun r' w' ⟨A', u1, u2, u3⟩ => ?_⟩; refine ⟨a.then u2 fun i hi h => ?_, fun k => A' k ∨ B k, ⟨A', B, u1, h2.keeps u2 fun k hk hA' => h3 k hA' hk, fun k h5 h6 => ?_, fun k => Iff.rfl⟩, fun k hk => ?_⟩
 · rcases hA i h with h | h
   · exact h
   · omega
 · rcases u3 k h5 with h | h
   · exact h3 k h h6
   · have := hlt k h6; omega
 · rcases hk with hk | hk
   · rcases u3 k hk with h | h
     · exact hA k h
     · have := a.size; exact .inr (by omega)
   · exact hB k hk
theorem Mem.ofSep {F : Nat → Prop} {w : World} {L : List Res} (h : SepL L F w) : Mem F w w L := ⟨Keeps.refl _ _, F, h, fun k hk => .inl hk⟩
theorem Mem.updAll {F : Nat → Prop} {w0 w : World} {L : List Res} (h : Mem F w0 w L) : Upd F w0 w (allR L) := let ⟨a, G, b, c⟩ := h; ⟨G, b, a, c⟩
theorem Mem.unall {F : Nat → Prop} {w0 w : World} {L L1 : List Res} (h : Mem F w0 w (allR L1 :: L)) : Mem F w0 w (L1 ++ L) := h.open fun A hA => ⟨A, hA, fun _ h => h⟩
theorem Mem.stepN {F : Nat → Prop} {w0 w : World} {L1 L : List Res} (h : Mem F w0 w (L1 ++ L)) : ∃ A, SepL L1 A w ∧ In F w0 A w ∧ ∀ (r' : Res) (w' : World), Upd A w w' r' → Mem F w0 w' (r' :: L) := by
 have hm := h.close (r := allR L1) fun _ hA => hA
 obtain ⟨A, h1, h2, h3⟩ := hm.step'; exact ⟨A, h1, ⟨hm.keepsTo, h2⟩, h3⟩
theorem Mem.stepIn {F : Nat → Prop} {w0 w : World} {L : List Res} {r : Res} (h : Mem F w0 w (r :: L)) : ∃ A, r.p A w ∧ In F w0 A w ∧ ∀ (r' : Res) (w' : World), Upd A w w' r' → Mem F w0 w' (r' :: L) := by
 obtain ⟨A, h1, h2, h3⟩ := h.step'; exact ⟨A, h1, ⟨h.keepsTo, h2⟩, h3⟩
theorem yieldAt_wide {P : Program} {n m l : Nat} {v : Array Value} {w : World} {R : Ending → World → Prop} (h : YieldAt Fence.wide n P l v w R) : YieldAt Fence.wide m P l v w R :=
 let ⟨fn, tmps, assign, body, h1, h2⟩ := h
 ⟨fn, tmps, assign, body, h1, roundIn_wide h2⟩
theorem IterR.wide {α : Type} {P : Program} {n m gf : Nat} {lb : Array Value} {xs : List α} {Rv : α → Array Value → (Nat → Prop) → World → Prop} {X : (Nat → Prop) → World → Prop} {Q Q' : Res} (h : IterR Fence.wide n P gf lb xs Rv X Q Q') : IterR Fence.wide m P gf lb xs Rv X Q Q' :=
 fun l R Rx W A h0 hx hr => callsIn_wide.2 (callsIn_wide.1 (h l R Rx W A h0 hx fun k hk v W1 F1 h1 h2 h3 => yieldAt_wide (hr k hk v W1 F1 h1 h2 h3)))
theorem Mem.unmark {F : Nat → Prop} {w0 w w' : World} {L : List Res} {D : Nat} (h : Mem F w0 w (markR D :: L)) (hk : Keeps (fun b => b ∈ [D]) w w') : Mem F w0 w' L := by
 obtain ⟨a, G, ⟨A, B, h1, h2, h3, h4⟩, c⟩ := h; have hD : A D := (h1.1 D).2 rfl; have hk' : Keeps (OneB D) w w' := hk.mono fun k _ h => List.mem_singleton.1 h
 refine ⟨a.then hk' fun i hi h => ?_, B, h2.keeps hk' fun k hB h => ?_, fun k hB => c k ((h4 k).2 (.inr hB))⟩
 · rcases c D ((h4 D).2 (.inl hD)) with h5 | h5
   · rw [show i = D from h]; exact h5
   · have : i = D := h
     omega
 · rw [show k = D from h] at hB; exact h3 D hD hB
theorem Mem.mark {F : Nat → Prop} {w0 w : World} {L : List Res} {D : Nat} (h : Mem F w0 w (markR D :: L)) : ∀ E, E ∈ [D] → Mark w E := fun E hE => by
 obtain ⟨A, hA⟩ := h.get (L' := L) .here; rw [List.mem_singleton.1 hE]; exact hA.2
theorem SepL.one {r : Res} {A : Nat → Prop} {w : World} (h : r.p A w) : SepL [r] A w := ⟨A, fun _ => False, h, fun _ h => h, fun _ _ h => h, fun k => ⟨.inl, fun h => h.resolve_right id⟩⟩
end
section
def roundPostP (P : Program) (l : Nat) (R : Ending → World → Prop) : Exit → Act → World → Prop
 | .normal, _, w => ∃ v w', (Instr.endRound l none).run P w = .ok v w' ∧ R (.returned v) w'
 | .panic ch, a, w => a.defers = [] ∧ R (.panicked ch) w
 | _, _, _ => False
section
variable {F : Fence} {n : Nat} {P : Program}
theorem roundIn_of_wpInP {l : Nat} {f : FuncId} {tmps : Array Value} {assign body : Code} {w : World} {R : Ending → World → Prop} (hF : F.fn f) (hf : ∃ fn, P.funcs[f]? = some fn)
 (h : assign.wpIn (F.inRound l) n P (Exit.then (fun a1 w1 => ∃ w2, (Instr.beginRound l).run P w1 = .ok () w2 ∧ body.wpIn (F.inRound l) n P (roundPostP P l R) a1 w2) (fun _ _ _ => False)) { tmps := tmps, defers := [] } w) :
 RoundIn F n P l f tmps assign body w R := by
 refine ⟨hF, fun c cs hr => ?_⟩; let b : Frame := { (default : Frame) with fn := f, kind := .normal, roundOf := some l }
 have hb0 : Frame.round l f tmps assign body .normal = b.atR { tmps := tmps, defers := [] } [.code assign, .beginRound, .code body] := by
  simp [Frame.round, Frame.atR, b]
 have hr' : (F.inRound l).room ((c :: cs).length + 1 + n) := hr; have hF' : (F.inRound l).fn b.fn := hF; obtain ⟨e, a1, w1, hq, harr⟩ := h b [.beginRound, .code body] (c :: cs) rfl hF' hr'; rw [← hb0] at harr; cases e with
 | normal =>
   obtain ⟨w2, hbr, hbody⟩ := hq
   have s1 : StepsIn (Machine.fenced P (F.inRound l)) P (lone (b.atR a1 [.beginRound, .code body]) (c :: cs) w1) (lone (b.atR a1 [.code body]) (c :: cs) w2) :=
    .one (fenced_calm (fr := b.atR a1 [.beginRound, .code body]) hF' hr' rfl) (stepR_beginRound rfl hbr)
   obtain ⟨e2, a2, w3, hq2, harr2⟩ := hbody b [] (c :: cs) rfl hF' hr'; cases e2 with
   | normal =>
     obtain ⟨v, w4, hend, hR⟩ := hq2; exact ⟨.returned v, w4, hR, (StepsIn.trans harr s1).trans (StepsIn.trans harr2 (.one (fenced_calm (fr := b.atR a2 []) hF' hr' rfl) (stepR_round_end rfl rfl hend)))⟩
   | panic ch =>
     obtain ⟨hd, hR⟩ := hq2; obtain ⟨todo, hs⟩ := harr2; have hl : Frame.leaving P { b.atR a2 todo with mode := .panicking ch } w3 (.panicked ch) := ⟨rfl, hd, hf⟩; exact ⟨.panicked ch, w3, hR, (StepsIn.trans harr s1).trans (StepsIn.trans hs (.one (fenced_leaving hF' hr' hl) (step_leave_panicked hl)))⟩
   | ret => exact hq2.elim
   | exit id => exact hq2.elim
   | goto t => exact hq2.elim
   | outgrown => exact hq2.elim
 | exit id => exact hq.elim
 | goto t => exact hq.elim
 | ret => exact hq.elim
 | panic chain => exact hq.elim
 | outgrown => exact hq.elim
def wpF (f0 : FuncId) (F : Fence) (n : Nat) (P : Program) (c : Code) (Q : Exit → Act → World → Prop) (a : Act) (w : World) : Prop :=
 ∀ (b : Frame) (k : List Item) (cs : List Frame), b.roundOf = F.round → b.fn = f0 → F.room (cs.length + 1 + n) →
   ∃ e a' w', Q e a' w' ∧ ArrivesIn (Machine.fenced P F) P (lone (b.atR a (.code c :: k)) cs w) b k cs e a' w'
variable {f0 : FuncId} {Q : Exit → Act → World → Prop} {a : Act} {w : World}
theorem wpF_of {c : Code} (hF : F.fn f0) (h : c.wpIn F n P Q a w) : wpF f0 F n P c Q a w := fun b k cs hro hb hr => h b k cs hro (hb ▸ hF) hr
theorem wpF_seq {x y : Code} (hF : F.fn f0) (h : wpF f0 F n P x (Exit.then (wpF f0 F n P y Q) Q) a w) : wpF f0 F n P (.seq x y) Q a w := by
 intro b k cs hro hb hr; have hb' : F.fn b.fn := hb ▸ hF; have h0 : (lone (b.atR a (.code (.seq x y) :: k)) cs w).fenced P F := fenced_calm hb' hr rfl; obtain ⟨e, a1, w1, hq, harr⟩ := h b (.code y :: k) cs hro hb hr; cases e with
 | normal =>
   obtain ⟨e2, a2, w2, hq2, harr2⟩ := hq b k cs hro hb hr; exact ⟨e2, a2, w2, hq2, .of_steps (.head h0 stepR_seq harr) harr2⟩
 | exit id => exact ⟨_, a1, w1, hq, .of_steps (.one h0 stepR_seq) (.pass (x := .code y) rfl (fun _ _ => .inl (by simp)) harr)⟩
 | goto l => exact ⟨_, a1, w1, hq, .of_steps (.one h0 stepR_seq) (.pass (x := .code y) rfl (fun _ _ => .inl (by simp)) harr)⟩
 | ret => exact ⟨_, a1, w1, hq, .of_steps (.one h0 stepR_seq) (.pass (x := .code y) rfl (fun _ _ => .inl (by simp)) harr)⟩
 | panic ch => exact ⟨_, a1, w1, hq, .of_steps (.one h0 stepR_seq) (.pass (x := .code y) rfl (fun _ _ => .inl (by simp)) harr)⟩
 | outgrown => exact ⟨_, a1, w1, hq, .of_steps (.one h0 stepR_seq) (.pass (x := .code y) rfl (fun _ _ => .inl (by simp)) harr)⟩
theorem wpF_block {id : Nat} {c : Code} (hF : F.fn f0) (h : wpF f0 F n P c (Exit.inBlock id Q) a w) : wpF f0 F n P (.block id c) Q a w := by
 intro b k cs hro hb0 hr; have hb : F.fn b.fn := hb0 ▸ hF; have h0 : (lone (b.atR a (.code (.block id c) :: k)) cs w).fenced P F := fenced_calm hb hr rfl; obtain ⟨e, a1, w1, hq, harr⟩ := h b (.inBlock id :: k) cs hro hb0 hr; cases e with
 | normal => exact ⟨.normal, a1, w1, hq, .head h0 stepR_block (StepsIn.trans harr (.one (fenced_calm hb hr rfl) stepR_inBlock))⟩
 | exit id' =>
   by_cases hid : id' = id
   · simp only [Exit.inBlock, hid, if_true] at hq
     exact ⟨.normal, a1, w1, hq, .head h0 stepR_block (harr.1 k (by simp [exitTo, hid]))⟩
   · simp only [Exit.inBlock, hid, if_false] at hq
     have this : (id == id') = false := by simp; exact fun h => hid h.symm
     have hx : exitTo id' (.inBlock id :: k) = exitTo id' k := by simp [exitTo, this]
     exact ⟨.exit id', a1, w1, hq, fun k' hk => .head h0 stepR_block (harr.1 k' (by rw [hx]; exact hk)),
      fun hr' hk => let ⟨k1, h1, h2⟩ := harr.2 hr' (by rw [hx]; exact hk); ⟨k1, h1, .head h0 stepR_block h2⟩⟩
 | goto l =>
   have hx : gotoIn l (.inBlock id :: k) = gotoIn l k := by simp [gotoIn]
   exact ⟨.goto l, a1, w1, hq, fun k' hk => .head h0 stepR_block (harr.1 k' (by rw [hx]; exact hk)),
    fun hr' hk => let ⟨k1, h1, h2⟩ := harr.2 hr' (by rw [hx]; exact hk); ⟨k1, h1, .head h0 stepR_block h2⟩⟩
 | ret => exact ⟨_, a1, w1, hq, .of_steps (.one h0 stepR_block) harr⟩
 | panic ch => exact ⟨_, a1, w1, hq, .of_steps (.one h0 stepR_block) harr⟩
 | outgrown => exact ⟨_, a1, w1, hq, .of_steps (.one h0 stepR_block) harr⟩
def rangePostF (P : Program) (l : Nat) (Q : Exit → Act → World → Prop) (a' : Act) : Ending → World → Prop
 | .returned _, w3 => ∃ w4, (Instr.endLoop l).run P w3 = .ok none w4 ∧ Q .normal a' w4
 | .panicked chain, w3 => Q (.panic chain) a' w3
 | .outgrown, _ => False
theorem wpF_rangeFunc {g : Operand} {ps : Array Tmp} {assign body : Code} (hF0 : F.fn f0)
 (h : ∃ (l : Nat) (mark : List Deferred) (w1 : World) (d : Deferred) (w1' : World) (f : FuncId) (args : Array Value) (w2 : World),
  (Instr.enterLoop f0 a.tmps ps assign body F.round).run P w = .ok (l, mark) w1 ∧
  (resolve a.eval (rangeCall g l) 0).run P w1 = .ok d w1' ∧
  (∀ f', Target.leads P w1' d.target d.args = some f' → F.fn f') ∧
  (invoke d.target d.args).run P w1' = .ok (.enter f args) w2 ∧
  (F.depth.isSome = true → 1 ≤ n) ∧
  CallsIn F (n - 1) P f args w2 (rangePostF P l Q { a with defers := mark ++ a.defers })) :
 wpF f0 F n P (.rangeFunc g ps assign body) Q a w := by
 intro b k cs hro hb0 hr; have hb : F.fn b.fn := hb0 ▸ hF0; obtain ⟨l, mark, w1, d, w1', f, args, w2, he, hres, hlead, hinv, hn, hF, hcall⟩ := h; rw [← hro, ← hb0] at he
 have h0 : (lone (b.atR a (.code (.rangeFunc g ps assign body) :: k)) cs w).fenced P F := by
  refine fenced_lone (.inl hb) (fun f' hf' => hlead f' ?_) (Fence.room_le hr (by omega)); have hev := Frame.eval_atR b a (.code (.rangeFunc g ps assign body) :: k); simp only [Frame.atR] at hev; simp only [Frame.about, Frame.atR, he, hev, hres] at hf'; exact hf'
 have henter := stepR_rangeFunc (P := P) (b := b) (a := a) (k := k) (cs := cs) (w := w) he hres hinv; have hroom : F.room ((b.atR { a with defers := mark ++ a.defers } (.inRangeFunc l :: k) :: cs).length + 1 + (n - 1)) := Fence.room_enter hr hn; obtain ⟨e, w3, fr, hR, hsteps, hfn, hleave⟩ := hcall (b.atR { a with defers := mark ++ a.defers } (.inRangeFunc l :: k) :: cs) hroom; cases e with
 | outgrown => exact hR.elim
 | returned v =>
   have hl : (lone fr (b.atR { a with defers := mark ++ a.defers } (.inRangeFunc l :: k) :: cs) w3).fenced P F := fenced_leaving (hfn ▸ hF) hroom hleave; obtain ⟨w4, hend, hj⟩ := hR
   have sback : StepsIn (Machine.fenced P F) P (lone (b.atR a (.code (.rangeFunc g ps assign body) :: k)) cs w) (lone (b.atR { a with defers := mark ++ a.defers } k) cs w4) := by
    refine .head h0 henter (StepsIn.trans hsteps (.head hl ?_ (.one (fenced_calm (fr := b.atR { a with defers := mark ++ a.defers } (.endRangeFunc l :: k)) hb hr rfl) (stepR_endRangeFunc hend)))); rw [← finish_atR_inRangeFunc l v]; exact step_leave_returned hleave
   exact ⟨.normal, _, w4, hj, sback⟩
 | panicked chain =>
   have hl : (lone fr (b.atR { a with defers := mark ++ a.defers } (.inRangeFunc l :: k) :: cs) w3).fenced P F := fenced_leaving (hfn ▸ hF) hroom hleave; refine ⟨.panic chain, _, w3, hR, .inRangeFunc l :: k, .head h0 henter (StepsIn.trans hsteps (.one hl ?_))⟩; rw [← Frame.raise_atR]; exact step_leave_panicked hleave
theorem callsIn_of_wpF {f : FuncId} {fn : Func} {c : Code} {args : Array Value} {w : World} {R : Ending → World → Prop}
 (hf : P.funcs[f]? = some fn) (hb : fn.body = some c) (hF : F.fn f)
 (h : wpF f F n P c (bodyPostM F n P fn R) { tmps := args ++ Array.replicate (fn.ntmps - args.size) undef, defers := [] } w) (hro : F.round = none := by rfl) : CallsIn F n P f args w R := by
 refine ⟨hF, fun cs hr => ?_⟩; let b : Frame := { (default : Frame) with fn := f, kind := .normal, roundOf := none }
 have henter : Frame.enter P f args .normal =
  b.atR { tmps := args ++ Array.replicate (fn.ntmps - args.size) undef, defers := [] } [.code c] := by
  simp [Frame.enter, Frame.atR, hf, hb, b]
 obtain ⟨e, a', w', hq, harr⟩ := h b [] cs hro.symm rfl hr; rw [← henter] at harr; cases e with
 | normal =>
   obtain ⟨e', w'', fr', hR, hs, hfn, hl⟩ := leaves_stepsInM a'.defers .returning w' { b.atR a' [] with mode := .returning } cs rfl rfl rfl hf rfl hF hr hq; exact ⟨e', w'', fr', hR, ComesIn.of_steps (StepsIn.trans harr (.one (fenced_calm (fr := b.atR a' []) hF hr rfl) (stepR_end rfl))) hs, hfn, hl⟩
 | ret =>
   obtain ⟨todo, hs0⟩ := harr.1 rfl; obtain ⟨e', w'', fr', hR, hs, hfn, hl⟩ := leaves_stepsInM a'.defers .returning w' { b.atR a' todo with mode := .returning } cs rfl rfl rfl hf rfl hF hr hq; exact ⟨e', w'', fr', hR, ComesIn.of_steps hs0 hs, hfn, hl⟩
 | panic chain =>
   obtain ⟨todo, hs0⟩ := harr; obtain ⟨e', w'', fr', hR, hs, hfn, hl⟩ := leaves_stepsInM a'.defers (.panicking chain) w' { b.atR a' todo with mode := .panicking chain } cs rfl rfl rfl hf rfl hF hr hq; exact ⟨e', w'', fr', hR, ComesIn.of_steps hs0 hs, hfn, hl⟩
 | exit id => exact hq.elim
 | goto l => exact hq.elim
 | outgrown => exact ⟨.outgrown, w', b, hq, harr.resolve_left (by simp [b]), rfl, trivial⟩
end
theorem leavesM_mark {P : Program} {F : Fence} {n : Nat} {fn : Func} {tmps : Array Value} {R : Ending → World → Prop} {ds : List Deferred} {u : FrameMode} {w : World} {D : Nat} (hu : u ≠ .run) (hm : Mark w D) (h : ∀ w', Keeps (fun b => b ∈ [D]) w w' → LeavesInM F n P fn tmps R ds u w') : LeavesInM F n P fn tmps R (markOf D :: ds) u w :=
 ⟨hu, .inl ⟨D, _, rfl, run_takeDeferred hm, h _ ((Keeps.refl _ w).putObj _ _ (.inl (List.mem_singleton.2 rfl)))⟩⟩
theorem leavesM_cons {P : Program} {n : Nat} {fn : Func} {tmps : Array Value} {R : Ending → World → Prop} {fv : Fn} {cap dargs : Array Value} {ds : List Deferred} {u : FrameMode} {w : World} {f : FuncId} {args : Array Value} (hu : u ≠ .run) (hi : (invoke (.fn fv cap) dargs).run P w = .ok (.enter f args) w)
 (h : CallsDIn Fence.wide (n - 1) P f args u w fun
  | .returned _, u', w' => LeavesInM Fence.wide n P fn tmps R ds (settle u') w'
  | .panicked chain, u', w' => LeavesInM Fence.wide n P fn tmps R ds (raised u' chain) w'
  | .outgrown, _, w' => R .outgrown w') : LeavesInM Fence.wide n P fn tmps R ({ target := .fn fv cap, args := dargs } :: ds) u w :=
 ⟨hu, .inr ⟨fun h => (by cases h), fv, cap, f, args, rfl, hi, fun _ _ => trivial, h⟩⟩
theorem callsDIn_mono {F : Fence} {n : Nat} {P : Program} {f : FuncId} {args : Array Value} {u : FrameMode} {w : World} {R R' : Ending → FrameMode → World → Prop} (h : CallsDIn F n P f args u w R) (hr : ∀ e u' w', R e u' w' → R' e u' w') : CallsDIn F n P f args u w R' :=
 ⟨h.1, fun c cs hu hroom => let ⟨e, u', w', fr, h1, h2, h3, h4, h5⟩ := h.2 c cs hu hroom; ⟨e, u', w', fr, hr _ _ _ h1, h2, h3, h4, h5⟩⟩
theorem Mem.recOut {G : Nat → Prop} {w0 w : World} {M : List Res} {L : Nat} {o : Loop} {o' : Obj} (h : Mem G w0 w (recR L o :: M)) : Mem G w0 (w.putObj L o') M := by
 obtain ⟨A, hA, h2⟩ := h.step; exact (h2 (allR []) _ ⟨fun _ => False, fun _ h => h, (Keeps.refl _ _).putObj _ _ (.inl ((hA.1 L).2 rfl)), fun k h => h.elim⟩).unall
theorem Mem.recTo {G : Nat → Prop} {w0 w : World} {M : List Res} {L : Nat} {o o' : Loop} (h : Mem G w0 w (recR L o :: M)) : Mem G w0 (w.putObj L (.loop o')) (recR L o' :: M) := by
 obtain ⟨A, hA, h2⟩ := h.step; exact h2 _ _ ⟨A, ⟨hA.1, World.putObj_heap_same (Array.getElem?_eq_some_iff.1 hA.2).1⟩, (Keeps.refl _ _).putObj _ _ (.inl ((hA.1 L).2 rfl)), fun k h => .inl h⟩
theorem Mem.pre {A G : Nat → Prop} {w W1 W2 : World} {L : List Res} (h : In A w G W1) (m : Mem G W1 W2 L) : Mem A w W2 L := by
 obtain ⟨a, H, b, c⟩ := m; have := In.trans h (⟨a, c⟩ : In G W1 H W2); exact ⟨this.1, H, b, this.2⟩
theorem Upd.mem {A : Nat → Prop} {w w' : World} {r : Res} (h : Upd A w w' r) : Mem A w w' [r] := let ⟨F', a, b, c⟩ := h; ⟨b, F', SepL.one a, c⟩
def IterP {σ α : Type} (F : Fence) (n : Nat) (P : Program) (gf : Nat) (lb : Array Value) (T : σ → Res) (Rv : α → Array Value → Prop) (ok : σ → α → Prop) (rnd : σ → α → σ × Option (List PanicEntry)) (s0 : σ) (fin : σ × Option (List PanicEntry)) (X : (Nat → Prop) → World → Prop) : Prop :=
 ∀ (l : Nat) (Lp Lx : Res) (W : World) (A : Nat → Prop), SepL [T s0, Lp] A W → X A W →
   (∀ s x v W1 F1, In A W F1 W1 → SepL [T s, Lp] F1 W1 → ok s x → Rv x v → YieldAt F (n - 1) P l v W1 fun e W' =>
    (e = .returned (.bool true) ∧ (rnd s x).2 = none ∧ Upd F1 W1 W' (allR [T (rnd s x).1, Lp])) ∨ ∃ ch, e = .panicked ch ∧ (rnd s x).2 = some ch ∧ Upd F1 W1 W' (allR [T (rnd s x).1, Lx])) →
   CallsIn F n P gf (#[.func (.yield l) #[] #[]] ++ lb) W fun e W' => ((∃ v, e = .returned v) ∧ fin.2 = none ∧ Upd A W W' (allR [T fin.1, Lp])) ∨
    ∃ ch r, e = .panicked ch ∧ fin.2 = some ch ∧ (r = Lp ∨ r = Lx) ∧ Upd A W W' (allR [T fin.1, r])
def roundEndP {σ : Type} (F1 : Nat → Prop) (W : World) (T : σ → Res) (q : σ × Option (List PanicEntry)) : Exit → Act → World → Prop
 | .normal, _, W' => q.2 = none ∧ Upd F1 W W' (T q.1)
 | .panic ch, a, W' => q.2 = some ch ∧ a.defers = [] ∧ Upd F1 W W' (T q.1)
 | _, _, _ => False
theorem wpF_rangeP {F : Fence} {n : Nat} {P : Program} {f0 : FuncId} {σ α : Type} {g : Operand} {ps : Array Tmp} {assign body : Code} {K : Exit → Act → World → Prop} {a : Act} {w : World} {A : Nat → Prop} (hF0 : F.fn f0) (hf0 : ∃ fn, P.funcs[f0]? = some fn)
 (hro : F.round = none) (h1 : 1 ≤ n) {gf : Nat} {lb : Array Value} (hg : a.eval g = .func (.func gf) #[] lb) (hFg : F.fn gf) (eg : ∀ args w, (callFunc gf args).run P w = .ok (.enter gf args) w)
 {T : σ → Res} {Rv : α → Array Value → Prop} {ok : σ → α → Prop} {rnd : σ → α → σ × Option (List PanicEntry)} {s0 : σ} {fin : σ × Option (List PanicEntry)} {X : (Nat → Prop) → World → Prop} (hxo : XOK X)
 (hiter : IterP F (n - 1) P gf lb T Rv ok rnd s0 fin X) (hps : ∀ x v, Rv x v → v.size = ps.size)
 (h0 : SepL [T s0] A w) (hx0 : X A w)
 (hround : ∀ s x v F1 W, In A w F1 W → (T s).p F1 W → ok s x → Rv x v → w.heap.size + 1 < W.heap.size →
  assign.wpIn (F.inRound (w.heap.size + 1)) (n - 1 - 1) P (Exit.then (fun a' W' => ∃ r2 : Res, Upd F1 W W' r2 ∧
   ∀ F2 W2, In A w F2 W2 → r2.p F2 W2 → w.heap.size + 1 < W2.heap.size → body.wpIn (F.inRound (w.heap.size + 1)) (n - 1 - 1) P (roundEndP F2 W2 T (rnd s x)) a' W2) (fun _ _ _ => False))
   { tmps := (ps.zip v).foldl (fun t (p, v) => t.setIfInBounds p v) a.tmps, defers := [] } W)
 (hdone : ∀ W, fin.2 = none → Mem A w W [T fin.1, markR w.heap.size] → K .normal { a with defers := markOf w.heap.size :: a.defers } W)
 (hpan : ∀ W ch, fin.2 = some ch → Mem A w W [T fin.1, markR w.heap.size] → K (.panic ch) { a with defers := markOf w.heap.size :: a.defers } W) :
 wpF f0 F n P (.rangeFunc g ps assign body) K a w := by
 refine wpF_rangeFunc hF0 ?_; rw [hro]; obtain ⟨rec, hrec⟩ : ∃ rec : LoopState → Option Code → Loop, rec = fun st pe => { state := st, pending := pe, fn := f0, tmps := a.tmps, params := ps, assign, body, defers := w.heap.size } := ⟨_, rfl⟩
 obtain ⟨W1, hW1⟩ : ∃ W1, (w.alloc (.deferred (some []))).alloc (.loop (rec .ready none)) = W1 := ⟨_, rfl⟩; obtain ⟨D, hD⟩ : ∃ D, w.heap.size = D := ⟨_, rfl⟩; obtain ⟨L, hL⟩ : ∃ L, w.heap.size + 1 = L := ⟨_, rfl⟩
 have hm1 : Mem A w W1 [recR L (rec .ready none), markR D, T s0] := by
  have e1 := (Mem.ofSep h0).new (r := markR D) (w' := w.alloc (.deferred (some []))) (G := fun k => k = D) ((Keeps.refl _ _).alloc _) ⟨fun k => Iff.rfl, by rw [← hD]; exact World.alloc_heap_new w _⟩ (fun k hk => by omega)
  have e2 := e1.new (r := recR L (rec .ready none)) (w' := W1) (G := fun k => k = L) (by rw [← hW1]; exact (Keeps.refl _ _).alloc _) ⟨fun k => Iff.rfl, by
   rw [← hW1, ← hL]; have := World.alloc_heap_new (w.alloc (.deferred (some []))) (.loop (rec .ready none)); rwa [World.size_alloc] at this⟩ (fun k hk => by rw [World.size_alloc]; omega)
  exact e2
 have hlp : Mem A w W1 [T s0, allR [recR L (rec .ready none), markR D]] := (hm1.close (L1 := [recR L (rec .ready none), markR D]) (r := allR [recR L (rec .ready none), markR D]) fun _ hA => hA).pick (.there .here); obtain ⟨hK0, G, hsep, hG⟩ := hlp; have hIn0 : In A w G W1 := ⟨hK0, hG⟩
 refine ⟨L, [markOf D], W1, { target := .fn (.func gf) lb, args := #[.func (.yield L) #[] #[]] }, W1, gf,
  #[.func (.yield L) #[] #[]] ++ lb, W1, ?_, ?_, ?_, ?_, fun _ => h1, ?_⟩
 · rw [← hW1, hrec, ← hL, ← hD]; exact run_enterLoop_outer _ _ _ _ _
 · simp only [resolve, hg]
   simp [go_sem]
 · intro f' hf'; simp [Target.leads] at hf'; subst hf'; exact hFg
 · simp [invoke, go_sem, eg]
 · refine (hiter L (allR [recR L (rec .ready none), markR D]) (markR D) W1 G hsep (hxo.step hx0 hK0 hG) ?_).mono ?_
   · intro s x v W F1 hIn1 hR hok hv
     have m0 : Mem F1 W W [recR L (rec .ready none), markR D, T s] := ((Mem.ofSep hR).pick (.there .here)).unall; obtain ⟨Ar, hr0⟩ := m0.get (r := recR L (rec .ready none)) .here; have hl : W.heap[L]? = some (.loop (rec .ready none)) := hr0.2; have hltL : L < W.heap.size := (Array.getElem?_eq_some_iff.1 hl).1; obtain ⟨AT, hT, hInT, hstep⟩ := (m0.pick (r := T s) (.there (.there .here))).stepIn; have hInA : In A w AT W := (hIn0.trans hIn1).trans hInT; have hy := run_yield (P := P) (args := v) hl (by rw [hrec]; exact hps _ _ hv); rw [hrec] at hy; refine ⟨f0, _, assign, body, hy, roundIn_of_wpInP hF0 hf0 (wpIn_mono (by rw [← hL]; exact hround s x v AT W hInA hT hok hv (by omega)) ?_)⟩; rintro e a' Wa hp; cases e with
     | normal =>
       obtain ⟨r2, hU2, hbody⟩ := hp; have m3 := (hstep _ _ hU2).pick (r := recR L (rec .ready none)) (.there .here); obtain ⟨Ar2, hr2⟩ := m3.get .here; refine ⟨_, run_beginRound hr2.2 (by rw [hrec]), ?_⟩; have m4 := m3.recTo (o' := { rec .ready none with state := .busy }); obtain ⟨Wb, hWb⟩ : ∃ Wb, Wa.putObj L (.loop { rec .ready none with state := .busy }) = Wb := ⟨_, rfl⟩; rw [hWb] at m4; rw [show Wa.putObj L (.loop { rec .ready none with state := .busy }) = Wb from hWb]; obtain ⟨A2, hA2, hIn2, hstep2⟩ := (m4.pick (r := r2) (.there .here)).stepIn; have hInA2 : In A w A2 Wb := (hIn0.trans hIn1).trans hIn2
       have hlb : L < Wb.heap.size := by
        obtain ⟨Ax, hx⟩ := m4.get (r := recR L { rec .ready none with state := .busy }) .here; exact (Array.getElem?_eq_some_iff.1 hx.2).1
       refine wpIn_mono (by rw [← hL]; exact hbody A2 Wb hInA2 hA2 (by omega)) ?_; rintro e a3 W3 hp3; cases e with
       | normal =>
         obtain ⟨hn, hU3⟩ := hp3; have m5 := (hstep2 _ _ hU3).pick (r := recR L { rec .ready none with state := .busy }) (.there .here); obtain ⟨Ay, hy5⟩ := m5.get (r := recR L { rec .ready none with state := .busy }) .here; have hend := run_endRound (P := P) none hy5.2; have m6 := m5.recTo (o' := rec .ready none); have m7 := (m6.pick (r := markR D) (.there (.there .here))).pick (r := recR L (rec .ready none)) (.there .here); rw [hrec] at hend m7; refine ⟨_, _, hend, .inl ⟨rfl, hn, ?_⟩⟩; rw [hrec]; exact ((m7.close (L1 := [recR L _, markR D]) (r := allR [recR L _, markR D]) fun _ hA => hA).pick (.there .here)).updAll
       | panic ch =>
         obtain ⟨hn, hd, hU3⟩ := hp3; exact ⟨hd, .inr ⟨ch, rfl, hn, ((hstep2 _ _ hU3).pick (r := recR L { rec .ready none with state := .busy }) (.there .here)).drop.updAll⟩⟩
       | ret => exact hp3.elim
       | exit id => exact hp3.elim
       | goto t => exact hp3.elim
       | outgrown => exact hp3.elim
     | ret => exact hp.elim
     | exit id => exact hp.elim
     | goto t => exact hp.elim
     | panic ch => exact hp.elim
     | outgrown => exact hp.elim
   · rintro e W2 (⟨⟨v, rfl⟩, hn, hU⟩ | ⟨ch, r, rfl, hn, hr, hU⟩)
     · have m1 := (Mem.pre hIn0 hU.mem).unall
       have m2 := (m1.pick (r := allR [recR L (rec .ready none), markR D]) (.there .here)).unall; obtain ⟨Ar, hr⟩ := m2.get (r := recR L (rec .ready none)) .here
       have hend : (Instr.endLoop L).run P W2 = .ok none (W2.putObj L (.loop { rec .ready none with state := .exhausted })) := by
        have := run_endLoop (P := P) hr.2 (by rw [hrec]; simp); rw [this, hrec]
       have m3 := (m2.recOut (o' := .loop { rec .ready none with state := .exhausted })).pick (r := T fin.1) (.there .here); rw [← hD] at m3 ⊢; exact ⟨_, hend, hdone _ hn m3⟩
     · have m1 := (Mem.pre hIn0 hU.mem).unall
       have m2 : Mem A w W2 [T fin.1, markR D] := by
        rcases hr with rfl | rfl
        · exact ((m1.pick (r := allR [recR L (rec .ready none), markR D]) (.there .here)).unall.drop).pick (.there .here)
        · exact m1
       rw [← hD] at m2 ⊢; exact hpan _ _ hn m2
end
theorem splitL_n (l : List UInt8) : (splitL l).2.1 ≤ l.length := by
 unfold splitL; split
 · exact Nat.zero_le _
 · split
   · exact Nat.zero_le _
   · split
     · exact Nat.zero_le _
     · split
       · exact Nat.zero_le _
       · dsimp only; omega
section
attribute [local go_sem] Oper.semAt_some
end
def ringR (b : Nat) (R : AR) : Res := anyR (fun F w => ∃ f A, RingAt w A b f R ∧ ¬ A b ∧ (∀ k, A k → k < w.heap.size) ∧ ∀ k, F k ↔ A k ∨ k = b)
 (fun ⟨f, A, h1, h2, h3, h4⟩ hk hs => ⟨f, A, h1.keeps hk (hs b ((h4 b).2 (.inr rfl))) (fun k ha => hs k ((h4 k).2 (.inl ha))), h2, fun k ha => Nat.lt_of_lt_of_le (h3 k ha) hk.size, h4⟩)
 (fun ⟨f, A, h1, h2, h3, h4⟩ k hk => ((h4 k).1 hk).elim (h3 k) fun e => e ▸ h1.lt)
theorem ringR.x {b : Nat} {R : AR} {C : Nat → Prop} {w : World} (h : (ringR b R).p C w) : RingX w (fun k => ¬ C k) b R :=
 let ⟨f, A, h1, h2, h3, h4⟩ := h
 ⟨f, A, h1, h2, fun k hk => ⟨h3 k hk, fun hn => hn ((h4 k).2 (.inl hk))⟩⟩
theorem ringR.own {b : Nat} {R : AR} {C : Nat → Prop} {w : World} (h : (ringR b R).p C w) : C b := let ⟨f, A, h1, h2, h3, h4⟩ := h; (h4 b).2 (.inr rfl)
theorem ringR.upd {b : Nat} {R' : AR} {C A A' : Nat → Prop} {f' : Nat} {w w' : World} (hC : ∀ k, C k ↔ A k ∨ k = b) (hb : ¬ A' b) (hA' : ∀ k, A' k → A k ∨ (w.heap.size ≤ k ∧ k < w'.heap.size)) (hA : ∀ k, A k → k < w.heap.size)
 (h : RingAt w' A' b f' R') (hk : Keeps (OneB b) w w') : Upd C w w' (ringR b R') :=
 ⟨fun k => A' k ∨ k = b, ⟨f', A', h, hb, fun k hk' => (hA' k hk').elim (fun g => Nat.lt_of_lt_of_le (hA k g) hk.size) (·.2), fun k => Iff.rfl⟩, hk.mono fun k _ h => (hC k).2 (.inr h), fun k hk' => by
  rcases hk' with hk' | hk'
  · exact (hA' k hk').elim (fun g => .inl ((hC k).2 (.inl g))) fun g => .inr g.1
  · exact .inl ((hC k).2 (.inr hk'))⟩
section
attribute [local go_sem] Oper.semAt_some
end
end Go.Proofs.YtoadjbgpfihoiaaGreatDoor
