/- Texts RangeR, IterS, IterF, IterA, one behind the other. Conditions: as each says. -/
import Derived.Test.YtcfgnbbiljohjaaGreatDoorPkM
section
/- A range over a function, told by the things of memory: what an iterator owes (it may turn its own), the caller's rule. No program is named here. -/
set_option linter.unusedVariables false
set_option linter.unusedSimpArgs false
set_option maxHeartbeats 1000000
namespace Go.Proofs.YtcfgnbbiljohjaaGreatDoor
open Go.RowKit
instance gl10 (F : Fence) (n : Nat) (P : Program) (c : Code) (Q : Exit → Act → World → Prop) (a : Act) (w : World) : Gl (c.wpIn F n P Q a w) (fun w => c.wpIn F n P Q a w) w := ⟨id⟩
instance gl11 (F : Fence) (n : Nat) (P : Program) (fn : Func) (R : Ending → World → Prop) (e : Exit) (a : Act) (w : World) : Gl (bodyPostM F n P fn R e a w) (fun w => bodyPostM F n P fn R e a w) w := ⟨id⟩
/-- the mark of a loop over a function, for the function's end -/
def markR (D : Nat) : Res := anyR (fun F w => (∀ k, F k ↔ k = D) ∧ Mark w D) (fun h hk hs => ⟨h.1, h.2.keeps hk (hs D ((h.1 D).2 rfl))⟩) (fun h k hk => by rw [(h.1 k).1 hk]; exact h.2.lt)
/-- a loop's record -/
def recR (L : Nat) (o : Loop) : Res := anyR (fun F w => (∀ k, F k ↔ k = L) ∧ w.heap[L]? = some (.loop o)) (fun h hk hs => ⟨h.1, (hk.block L (Array.getElem?_eq_some_iff.1 h.2).1 (hs L ((h.1 L).2 rfl))).trans h.2⟩)
  (fun h k hk => by rw [(h.1 k).1 hk]; exact (Array.getElem?_eq_some_iff.1 h.2).1)
def allR (L : List Res) : Res := anyR (fun F w => SepL L F w) (fun h hk hs => h.keeps hk hs) (fun h => h.lt)
/-- one of some things -/
def someR {α : Type} (R : α → Res) : Res := anyR (fun F w => ∃ c, (R c).p F w) (fun ⟨c, h⟩ hk hs => ⟨c, Res.keeps _ h hk hs⟩) (fun ⟨c, h⟩ => Res.lt _ h)
/-- what is handed on stays while the rounds turn their own -/
structure RvOK {α : Type} (Rv : α → Array Value → (Nat → Prop) → World → Prop) : Prop where
  step : ∀ {x v F G w w'}, Rv x v F w → Keeps F w w' → (∀ k, G k → F k ∨ w.heap.size ≤ k) → Rv x v G w'

/-- the way from a world with blocks A of one's own to one with blocks F of one's own -/
def In (A : Nat → Prop) (W : World) (F : Nat → Prop) (w : World) : Prop := Keeps A W w ∧ ∀ j, F j → A j ∨ W.heap.size ≤ j
theorem In.trans {A C F : Nat → Prop} {W w2 w3 : World} (h : In A W C w2) (k : In C w2 F w3) : In A W F w3 :=
  ⟨h.1.then k.1 fun i hi hC => (h.2 i hC).elim id fun g => absurd g (by omega), fun j hj => (k.2 j hj).elim (h.2 j) fun g => .inr (Nat.le_trans h.1.size g)⟩
/-- what it asks of memory beside, stays -/
structure XOK (X : (Nat → Prop) → World → Prop) : Prop where
  step : ∀ {A A' w w'}, X A w → Keeps A w w' → (∀ k, A' k → A k ∨ w.heap.size ≤ k) → X A' w'
def NoX : (Nat → Prop) → World → Prop := fun _ _ => True
theorem noX_ok : XOK NoX := ⟨fun _ _ _ => trivial⟩
/-- what an iterator owes over its own thing Q: it hands on xs, one by one; Q' is what comes of Q -/
def IterR {α : Type} (F : Fence) (n : Nat) (P : Program) (gf : Nat) (lb : Array Value) (xs : List α) (Rv : α → Array Value → (Nat → Prop) → World → Prop) (X : (Nat → Prop) → World → Prop) (Q Q' : Res) : Prop :=
  ∀ (l : Nat) (R Rx : Nat → Res) (W : World) (A : Nat → Prop), SepL [Q, R 0] A W → X A W →
    (∀ k (hk : k < xs.length) v W1 F1, In A W F1 W1 → (R k).p F1 W1 → Rv xs[k] v F1 W1 → YieldAt F (n - 1) P l v W1 fun e W' =>
      (e = .returned (.bool true) ∧ Upd F1 W1 W' (R (k + 1))) ∨ (e = .returned (.bool false) ∧ Upd F1 W1 W' (Rx (k + 1)))) →
    CallsIn F n P gf (#[.func (.yield l) #[] #[]] ++ lb) W fun e W' => (∃ v, e = .returned v) ∧ ∃ r : Res, (r = R xs.length ∨ ∃ k, k < xs.length ∧ r = Rx (k + 1)) ∧ Upd A W W' (allR [Q', r])

def roundEndR (F1 : Nat → Prop) (W : World) (R : Nat → Res) (Rx : Code → Nat → Res) (k : Nat) : Exit → Act → World → Prop
  | .normal, _, W' => Upd F1 W W' (R k)
  | .ret, _, W' => Upd F1 W W' (Rx .ret k)
  | .exit id, _, W' => Upd F1 W W' (Rx (.exit id) k)
  | .goto t, _, W' => Upd F1 W W' (Rx (.goto t) k)
  | .panic _, _, _ => False
  | .outgrown, _, _ => False

theorem Res.congr (r : Res) {F G : Nat → Prop} {w : World} (h : r.p F w) (hg : ∀ k, G k ↔ F k) : r.p G w := by
  have : G = F := funext fun k => propext (hg k)
  rw [this]; exact h
section
variable {F : Fence} {n : Nat} {P : Program}
theorem wpIn_rangeR {α : Type} {g : Operand} {ps : Array Tmp} {assign body : Code} {K : Exit → Act → World → Prop} {a : Act} {w : World} {A : Nat → Prop}
    (hro : F.round = none) (h1 : 1 ≤ n) {gf : Nat} {lb : Array Value} (hg : a.eval g = .func (.func gf) #[] lb) (hFg : F.fn gf) (eg : ∀ args w, (callFunc gf args).run P w = .ok (.enter gf args) w)
    {xs : List α} {Rv : α → Array Value → (Nat → Prop) → World → Prop} (hrv : RvOK Rv) {X : (Nat → Prop) → World → Prop} (hxo : XOK X) {Q Q' : Res} (hiter : IterR F (n - 1) P gf lb xs Rv X Q Q') (hps : ∀ x v F W, Rv x v F W → v.size = ps.size)
    (R : Nat → Res) (Rx : Code → Nat → Res) (h0 : SepL [Q, R 0] A w) (hx0 : X A w)
    (hround : ∀ k (hk : k < xs.length) v F1 W, In A w F1 W → (R k).p F1 W → Rv xs[k] v F1 W → w.heap.size + 1 < W.heap.size →
      assign.wpIn (F.inRound (w.heap.size + 1)) (n - 1 - 1) P (Exit.then (fun a' W' => ∃ r2 : Res, Upd F1 W W' r2 ∧
        ∀ F2 W2, In A w F2 W2 → r2.p F2 W2 → Rv xs[k] v F2 W2 → w.heap.size + 1 < W2.heap.size → body.wpIn (F.inRound (w.heap.size + 1)) (n - 1 - 1) P (roundEndR F2 W2 R Rx (k + 1)) a' W2) (fun _ _ _ => False))
        { tmps := (ps.zip v).foldl (fun t (p, v) => t.setIfInBounds p v) a.tmps, defers := [] } W)
    (hdone : ∀ W, Upd A w W (allR [Q', R xs.length, markR w.heap.size]) → K .normal { a with defers := markOf w.heap.size :: a.defers } W)
    (hstop : ∀ c k W, k < xs.length → Upd A w W (allR [Q', Rx c (k + 1), markR w.heap.size]) → c.wpIn F n P K { a with defers := markOf w.heap.size :: a.defers } W) :
    (Code.rangeFunc g ps assign body).wpIn F n P K a w := by
  refine wpIn_rangeFunc ?_
  intro fn hfn
  rw [hro]
  obtain ⟨rec, hrec⟩ : ∃ rec : LoopState → Option Code → Loop, rec = fun st pe => { state := st, pending := pe, fn, tmps := a.tmps, params := ps, assign, body, defers := w.heap.size } := ⟨_, rfl⟩
  obtain ⟨W1, hW1⟩ : ∃ W1, (w.alloc (.deferred (some []))).alloc (.loop (rec .ready none)) = W1 := ⟨_, rfl⟩
  obtain ⟨D, hD⟩ : ∃ D, w.heap.size = D := ⟨_, rfl⟩
  obtain ⟨L, hL⟩ : ∃ L, w.heap.size + 1 = L := ⟨_, rfl⟩
  have hLD : L = D + 1 := by omega
  have hL1 : W1.heap[L]? = some (.loop (rec .ready none)) := by
    rw [← hW1, ← hL]; have := World.alloc_heap_new (w.alloc (.deferred (some []))) (.loop (rec .ready none)); rwa [World.size_alloc] at this
  have hK1 : Mark W1 D := by
    rw [← hW1, ← hD]; exact (Below.heap_alloc _ _ _ (by simp)).trans (World.alloc_heap_new w _)
  have hE1 : Ext w W1 := by rw [← hW1]; exact ((Keeps.refl _ w).alloc _).alloc _
  have put1 : ∀ (W : World) (o : Obj), Keeps (OneB L) W (W.putObj L o) := fun W o => (Keeps.refl _ W).putObj _ o (.inl rfl)
  have hAlt : ∀ k, A k → k < w.heap.size := h0.lt
  -- the things of the loop within
  obtain ⟨R1, hR1⟩ : ∃ R1 : Nat → Res, R1 = fun k => allR [R k, markR D, recR L (rec .ready none)] := ⟨_, rfl⟩
  obtain ⟨R2, hR2⟩ : ∃ R2 : Nat → Res, R2 = fun k => someR fun c => allR [Rx c k, markR D, recR L (rec .done (some c))] := ⟨_, rfl⟩
  have h0' : SepL [Q, R1 0] (fun k => A k ∨ k = D ∨ k = L) W1 := by
    obtain ⟨B, C, b1, ⟨B2, C2, b5, b6, b7, b8⟩, b3, b4⟩ := h0
    have hB2 : ∀ k, B2 k → k < w.heap.size := Res.lt _ b5
    have hBl : ∀ k, B k → k < w.heap.size := Res.lt _ b1
    refine ⟨B, fun k => C k ∨ k = D ∨ k = L, Res.keeps _ b1 hE1 (fun _ _ => noB _), ⟨fun k => C k ∨ k = D ∨ k = L, fun _ => False, ?_, fun k h => h, fun _ _ h => h, fun k => by simp⟩, fun k hB hC => ?_, fun k => ?_⟩
    · rw [hR1]
      refine ⟨C, fun k => k = D ∨ k = L, Res.congr _ (Res.keeps _ b5 hE1 (fun _ _ => noB _)) (fun k => by rw [b8]; exact ⟨fun h => h.resolve_right (b6 k), .inl⟩), ⟨fun k => k = D, fun k => k = L, ⟨fun k => Iff.rfl, hK1⟩, ⟨fun k => k = L, fun _ => False, ⟨fun k => Iff.rfl, hL1⟩, fun k h => h, fun _ _ h => h, fun k => by simp⟩, fun k h h' => by omega, fun k => Iff.rfl⟩, fun k hC h => ?_, fun k => by simp⟩
      have hC' : B2 k := ((b8 k).1 hC).resolve_right (b6 k)
      have := hB2 k hC'
      omega
    · rcases hC with hC | hC | hC
      · exact b3 k hB hC
      · have := hBl k hB; omega
      · have := hBl k hB; omega
    · show (A k ∨ k = D ∨ k = L) ↔ B k ∨ (C k ∨ k = D ∨ k = L)
      rw [b4]; constructor
      · rintro ((h | h) | h)
        · exact .inl h
        · exact .inr (.inl h)
        · exact .inr (.inr h)
      · rintro (h | h | h)
        · exact .inl (.inl h)
        · exact .inl (.inr h)
        · exact .inr h
  have hA1 : ∀ k, (A k ∨ k = D ∨ k = L) → A k ∨ w.heap.size ≤ k := fun k h => by
    rcases h with h | h | h
    · exact .inl h
    · exact .inr (by omega)
    · exact .inr (by omega)
  -- what ends a loop
  have fin : ∀ {o : Loop} {r : Res} {W2 : World}, Upd (fun k => A k ∨ k = D ∨ k = L) W1 W2 (allR [Q', allR [r, markR D, recR L o]]) → W2.heap[L]? = some (.loop o) ∧ ∀ o' : Obj, Upd A w (W2.putObj L o') (allR [Q', r, markR D]) := fun {o r W2} hU => by
    obtain ⟨G, hs, hk, hg⟩ := hU
    obtain ⟨B, C, b1, ⟨B2, C2, b5, b6, b7, b8⟩, b3, b4⟩ := hs
    obtain ⟨E1, E2, e1, ⟨E3, E4, e3, ⟨E5, E6, e5, e6, e7, e8⟩, e9, e10⟩, e11, e12⟩ := b5
    have hL5 : ∀ k, E5 k ↔ k = L := e5.1
    have hD3 : ∀ k, E3 k ↔ k = D := e3.1
    have hl : W2.heap[L]? = some (.loop o) := e5.2
    have hLE1 : ¬ E1 L := fun h => e11 L h ((e10 L).2 (.inr ((e8 L).2 (.inl ((hL5 L).2 rfl)))))
    have hLB2 : B2 L := (e12 L).2 (.inr ((e10 L).2 (.inr ((e8 L).2 (.inl ((hL5 L).2 rfl))))))
    have hLB : ¬ B L := fun h => b3 L h ((b8 L).2 (.inl hLB2))
    have hDE1 : ¬ E1 D := fun h => e11 D h ((e10 D).2 (.inl ((hD3 D).2 rfl)))
    have hDB2 : B2 D := (e12 D).2 (.inr ((e10 D).2 (.inl ((hD3 D).2 rfl))))
    have hDB : ¬ B D := fun h => b3 D h ((b8 D).2 (.inl hDB2))
    refine ⟨hl, fun o' => ?_⟩
    have hp := put1 W2 o'
    refine ⟨fun k => B k ∨ E1 k ∨ k = D, ⟨B, fun k => E1 k ∨ k = D, Res.keeps _ b1 hp (fun k hB h => by rw [show k = L from h] at hB; exact hLB hB), ⟨E1, fun k => k = D, Res.keeps _ e1 hp (fun k hB h => by rw [show k = L from h] at hB; exact hLE1 hB), ⟨fun k => k = D, fun _ => False, ⟨fun k => Iff.rfl, e3.2.keeps hp (by unfold OneB; omega)⟩, fun k h => h, fun _ _ h => h, fun k => by simp⟩, fun k h h' => by rw [h'] at h; exact hDE1 h, fun k => Iff.rfl⟩, fun k h h' => ?_, fun k => Iff.rfl⟩, ?_, fun k hk2 => ?_⟩
    · rcases h' with h' | h'
      · exact b3 k h ((b8 k).2 (.inl ((e12 k).2 (.inl h'))))
      · rw [h'] at h; exact hDB h
    · have h3 : Keeps A w W2 := (Ext.keeps hE1).then (hk.mono (T := fun k => A k ∨ k = D ∨ k = L) fun _ _ h => h) fun i hi h => by
        rcases h with h | h | h
        · exact h
        · omega
        · omega
      exact h3.then hp fun i hi h => by
        have : i = L := h
        omega
    · have : G k := (b4 k).2 (by
        rcases hk2 with h | h | h
        · exact .inl h
        · exact .inr ((b8 k).2 (.inl ((e12 k).2 (.inl h))))
        · exact .inr ((b8 k).2 (.inl (by rw [h]; exact hDB2))))
      rcases hg k this with h | h
      · exact hA1 k h
      · have := hE1.size; exact .inr (by omega)
  refine ⟨L, [markOf D], W1, { target := .fn (.func gf) lb, args := #[.func (.yield L) #[] #[]] }, W1, gf,
    #[.func (.yield L) #[] #[]] ++ lb, W1, ?_, ?_, ?_, ?_, fun _ => h1, ?_⟩
  · rw [← hW1, hrec, ← hL, ← hD]; exact run_enterLoop_outer _ _ _ _ _
  · simp only [resolve, hg]
    simp [go_sem]
  · intro f' hf'; simp [Target.leads] at hf'; subst hf'; exact hFg
  · simp [invoke, go_sem, eg]
  · refine (hiter L R1 R2 W1 _ h0' (hxo.step hx0 (Ext.keeps hE1) hA1) ?_).mono ?_
    · intro k hk v W F1 ⟨hK0, hF0⟩ hR hv
      rw [hR1] at hR
      obtain ⟨B2, C2, b5, ⟨E3, E4, e3, ⟨E5, E6, e5, e6, e7, e8⟩, e9, e10⟩, b7, b8⟩ := hR
      have hL5 : ∀ k, E5 k ↔ k = L := e5.1
      have hD3 : ∀ k, E3 k ↔ k = D := e3.1
      have hl : W.heap[L]? = some (.loop (rec .ready none)) := e5.2
      have hm : Mark W D := e3.2
      have hE4L : E4 L := (e8 L).2 (.inl ((hL5 L).2 rfl))
      have hC2 : ∀ k, C2 k ↔ k = D ∨ k = L := fun k => by
        rw [e10, hD3, e8, hL5]
        constructor
        · rintro (h | h | h)
          · exact .inl h
          · exact .inr h
          · exact (e6 k h).elim
        · rintro (h | h)
          · exact .inl h
          · exact .inr (.inl h)
      have hLB : ¬ B2 L := fun h => b7 L h ((hC2 L).2 (.inr rfl))
      have hDB : ¬ B2 D := fun h => b7 D h ((hC2 D).2 (.inl rfl))
      have hlt : L < W.heap.size := (Array.getElem?_eq_some_iff.1 hl).1
      have hF1 : ∀ k, F1 k ↔ B2 k ∨ k = D ∨ k = L := fun k => by rw [b8, hC2]
      have hlt' : w.heap.size + 1 < W.heap.size := by omega
      have hKW : Keeps A w W := (Ext.keeps hE1).then (hK0.mono (T := fun k => A k ∨ k = D ∨ k = L) fun _ _ h => h) fun i hi h => by
        rcases h with h | h | h
        · exact h
        · omega
        · omega
      have hFW : ∀ j, B2 j → A j ∨ w.heap.size ≤ j := fun j hj => (hF0 j ((hF1 j).2 (.inl hj))).elim (hA1 j) fun h => .inr (by have := hE1.size; omega)
      have hv2 : Rv xs[k] v B2 W := hrv.step hv (Keeps.refl _ _) fun i h => .inl ((hF1 i).2 (.inl h))
      have hy := run_yield (P := P) (args := v) hl (by rw [hrec]; exact hps _ _ _ _ hv)
      rw [hrec] at hy
      refine ⟨fn, _, assign, body, hy, roundIn_of_wpIn hfn (wpIn_mono (by rw [← hL]; exact hround k hk v B2 W ⟨hKW, hFW⟩ b5 hv2 hlt') ?_)⟩
      rintro e a' Wa hp
      cases e with
      | normal =>
        obtain ⟨r2, ⟨G2, g1, g2, g3⟩, hbody⟩ := hp
        have hLG : ¬ G2 L := fun h => (g3 L h).elim hLB (by omega)
        have hDG : ¬ G2 D := fun h => (g3 D h).elim hDB (by omega)
        have hla : Wa.heap[L]? = some (.loop (rec .ready none)) := (g2.block L hlt hLB).trans hl
        have hma : Mark Wa D := hm.keeps g2 hDB
        have hlta : L < Wa.heap.size := (Array.getElem?_eq_some_iff.1 hla).1
        refine ⟨_, run_beginRound hla (by rw [hrec]), ?_⟩
        obtain ⟨Wb, hWb⟩ : ∃ Wb, Wa.putObj L (.loop { rec .ready none with state := .busy }) = Wb := ⟨_, rfl⟩
        have hkb : Keeps (OneB L) Wa Wb := by rw [← hWb]; exact put1 _ _
        have hl2 : Wb.heap[L]? = some (.loop { rec .ready none with state := .busy }) := by rw [← hWb]; exact World.putObj_heap_same hlta
        have hm2 : Mark Wb D := hma.keeps hkb (by unfold OneB; omega)
        have hR2b : r2.p G2 Wb := Res.keeps _ g1 hkb (fun i h h' => by rw [show i = L from h'] at h; exact hLG h)
        have hk2 : Keeps F1 W Wb := (g2.mono (T := F1) fun i _ h => (hF1 i).2 (.inl h)).then hkb fun i _ h => (hF1 i).2 (.inr (.inr h))
        have hvb : Rv xs[k] v G2 Wb := hrv.step hv hk2 fun i h => (g3 i h).elim (fun h => .inl ((hF1 i).2 (.inl h))) .inr
        have hltb : L < Wb.heap.size := (Array.getElem?_eq_some_iff.1 hl2).1
        have hIn : In A w G2 Wb := ⟨(hKW.then g2 fun i hi h => (hFW i h).elim id fun g => absurd g (by omega)).then hkb fun i hi h => (by have : i = L := h; omega), fun i h => (g3 i h).elim (hFW i) fun g => .inr (Nat.le_trans hKW.size g)⟩
        rw [show Wa.putObj L (.loop { rec .ready none with state := .busy }) = Wb from hWb]
        refine wpIn_mono (by rw [← hL]; exact hbody G2 Wb hIn hR2b hvb (by omega)) ?_
        have finR : ∀ (jump : Option Code) (W3 : World) (r : Res), Upd G2 Wb W3 r →
            (Instr.endRound L jump).run P W3 = .ok (.bool jump.isNone) (W3.putObj L (.loop (rec (if jump.isNone then .ready else .done) jump))) ∧
            Upd F1 W (W3.putObj L (.loop (rec (if jump.isNone then .ready else .done) jump))) (allR [r, markR D, recR L (rec (if jump.isNone then .ready else .done) jump)]) := fun jump W3 r hU => by
          obtain ⟨G, u1, u2, u3⟩ := hU
          have hl3 := (u2.block _ hltb hLG).trans hl2
          have hm3 : Mark W3 D := hm2.keeps u2 hDG
          have hGL : ¬ G L := fun h => (u3 L h).elim hLG (by omega)
          have hGD : ¬ G D := fun h => (u3 D h).elim hDG (by omega)
          have := run_endRound (P := P) jump hl3
          rw [hrec] at this ⊢
          refine ⟨this, fun i => G i ∨ i = D ∨ i = L, ⟨G, fun i => i = D ∨ i = L, Res.keeps _ u1 (put1 _ _) (fun i h h' => by rw [show i = L from h'] at h; exact hGL h), ⟨fun i => i = D, fun i => i = L, ⟨fun i => Iff.rfl, hm3.keeps (put1 _ _) (by unfold OneB; omega)⟩, ⟨fun i => i = L, fun _ => False, ⟨fun i => Iff.rfl, World.putObj_heap_same (Array.getElem?_eq_some_iff.1 hl3).1⟩, fun i h => h, fun _ _ h => h, fun i => by simp⟩, fun i h h' => by omega, fun i => Iff.rfl⟩, fun i h h' => ?_, fun i => Iff.rfl⟩, ?_, fun i h => ?_⟩
          · rcases h' with h' | h'
            · rw [h'] at h; exact hGD h
            · rw [h'] at h; exact hGL h
          · have k2 : Keeps F1 W W3 := hk2.then u2 fun i hi h => (g3 i h).elim (fun h => (hF1 i).2 (.inl h)) fun g => absurd g (by omega)
            exact k2.then (put1 _ _) fun i _ h => (hF1 i).2 (.inr (.inr h))
          · rcases h with h | h
            · rcases u3 i h with h | h
              · rcases g3 i h with h | h
                · exact .inl ((hF1 i).2 (.inl h))
                · exact .inr h
              · have := hk2.size; exact .inr (by omega)
            · exact .inl ((hF1 i).2 (.inr h))
        rintro e a3 W3 hp
        cases e with
        | normal =>
          obtain ⟨hr, hu⟩ := finR none W3 _ hp
          exact ⟨_, _, hr, .inl ⟨rfl, by rw [hR1]; exact hu⟩⟩
        | ret =>
          obtain ⟨hr, G, hu⟩ := finR (some .ret) W3 _ hp
          exact ⟨_, _, hr, .inr ⟨rfl, G, by rw [hR2]; exact ⟨⟨.ret, hu.1⟩, hu.2⟩⟩⟩
        | exit id =>
          obtain ⟨hr, G, hu⟩ := finR (some (.exit id)) W3 _ hp
          exact ⟨_, _, hr, .inr ⟨rfl, G, by rw [hR2]; exact ⟨⟨.exit id, hu.1⟩, hu.2⟩⟩⟩
        | goto t =>
          obtain ⟨hr, G, hu⟩ := finR (some (.goto t)) W3 _ hp
          exact ⟨_, _, hr, .inr ⟨rfl, G, by rw [hR2]; exact ⟨⟨.goto t, hu.1⟩, hu.2⟩⟩⟩
        | panic ch => exact hp.elim
        | outgrown => exact hp.elim
      | ret => exact hp.elim
      | exit id => exact hp.elim
      | goto t => exact hp.elim
      | panic ch => exact hp.elim
      | outgrown => exact hp.elim
    · rintro e W2 ⟨⟨v, rfl⟩, r, (rfl | ⟨k, hk, rfl⟩), hU⟩
      · rw [hR1] at hU
        obtain ⟨hl, hf⟩ := fin hU
        exact ⟨none, _, by have := run_endLoop (P := P) hl (by rw [hrec]; simp); rw [hrec] at this; exact this, by rw [← hD] at hf; rw [← hD]; exact hdone _ (hf _)⟩
      · rw [hR2] at hU
        obtain ⟨G, ⟨B, C, b1, ⟨B2, C2, ⟨c, b5⟩, b6, b7, b8⟩, b3, b4⟩, hu⟩ := hU
        obtain ⟨hl, hf⟩ := fin (o := rec .done (some c)) (r := Rx c (k + 1)) ⟨G, ⟨B, C, b1, ⟨B2, C2, b5, b6, b7, b8⟩, b3, b4⟩, hu⟩
        exact ⟨some c, _, by have := run_endLoop (P := P) hl (by rw [hrec]; simp); rw [hrec] at this; exact this, by rw [← hD] at hf; rw [← hD]; exact hstop c k _ hk (hf _)⟩
end

/-- a thing under a condition -/
def condR (φ : Prop) (r : Res) : Res := anyR (fun F w => φ ∧ r.p F w) (fun h hk hs => ⟨h.1, Res.keeps _ h.2 hk hs⟩) (fun h => Res.lt _ h.2)
def roundEndB (F1 : Nat → Prop) (W : World) (id : Nat) (R Rx : Nat → Res) (k : Nat) : Exit → Act → World → Prop := roundEndR F1 W R (fun c k => condR (c = .exit id) (Rx k)) k
section
variable {F : Fence} {n : Nat} {P : Program}
theorem wpIn_rangeR_break {α : Type} {g : Operand} {ps : Array Tmp} {assign body : Code} {K : Exit → Act → World → Prop} {a : Act} {w : World} {A : Nat → Prop} {id : Nat}
    (hro : F.round = none) (h1 : 1 ≤ n) {gf : Nat} {lb : Array Value} (hg : a.eval g = .func (.func gf) #[] lb) (hFg : F.fn gf) (eg : ∀ args w, (callFunc gf args).run P w = .ok (.enter gf args) w)
    {xs : List α} {Rv : α → Array Value → (Nat → Prop) → World → Prop} (hrv : RvOK Rv) {X : (Nat → Prop) → World → Prop} (hxo : XOK X) {Q Q' : Res} (hiter : IterR F (n - 1) P gf lb xs Rv X Q Q') (hps : ∀ x v F W, Rv x v F W → v.size = ps.size)
    (R Rx : Nat → Res) (h0 : SepL [Q, R 0] A w) (hx0 : X A w)
    (hround : ∀ k (hk : k < xs.length) v F1 W, In A w F1 W → (R k).p F1 W → Rv xs[k] v F1 W → w.heap.size + 1 < W.heap.size →
      assign.wpIn (F.inRound (w.heap.size + 1)) (n - 1 - 1) P (Exit.then (fun a' W' => ∃ r2 : Res, Upd F1 W W' r2 ∧
        ∀ F2 W2, In A w F2 W2 → r2.p F2 W2 → Rv xs[k] v F2 W2 → w.heap.size + 1 < W2.heap.size → body.wpIn (F.inRound (w.heap.size + 1)) (n - 1 - 1) P (roundEndB F2 W2 id R Rx (k + 1)) a' W2) (fun _ _ _ => False))
        { tmps := (ps.zip v).foldl (fun t (p, v) => t.setIfInBounds p v) a.tmps, defers := [] } W)
    (hend : ∀ W (r : Res), (r = R xs.length ∨ ∃ k, k < xs.length ∧ r = Rx (k + 1)) → Upd A w W (allR [Q', r, markR w.heap.size]) → Exit.inBlock id K .normal { a with defers := markOf w.heap.size :: a.defers } W) :
    (Code.rangeFunc g ps assign body).wpIn F n P (Exit.inBlock id K) a w :=
  wpIn_rangeR hro h1 hg hFg eg hrv hxo hiter hps R (fun c k => condR (c = .exit id) (Rx k)) h0 hx0 hround
    (fun W hU => hend W _ (.inl rfl) hU)
    (fun c k W hk hU => by
      obtain ⟨G, ⟨B, C, b1, ⟨B2, C2, ⟨rfl, b5⟩, b6, b7, b8⟩, b3, b4⟩, hu⟩ := hU
      refine wpIn_exit ?_
      have := hend W _ (.inr ⟨k, hk, rfl⟩) ⟨G, ⟨B, C, b1, ⟨B2, C2, b5, b6, b7, b8⟩, b3, b4⟩, hu⟩
      simpa [Exit.inBlock] using this)
end
theorem roundIn_any {P : Program} {n m r l : Nat} {f : FuncId} {tmps : Array Value} {assign body : Code} {w : World} {R : Ending → World → Prop} (h : RoundIn Fence.wide n P l f tmps assign body w R) : RoundIn (Fence.wide.inRound r) m P l f tmps assign body w R :=
  ⟨h.1, fun c cs _ => h.2 c cs (room_wide _)⟩
theorem roundIn_wide {P : Program} {n m l : Nat} {f : FuncId} {tmps : Array Value} {assign body : Code} {w : World} {R : Ending → World → Prop} (h : RoundIn Fence.wide n P l f tmps assign body w R) : RoundIn Fence.wide m P l f tmps assign body w R :=
  ⟨h.1, fun c cs _ => h.2 c cs (room_wide _)⟩
/-- a deed of one thing's own, beside another one -/
theorem Mem.beside {F : Nat → Prop} {w0 w : World} {L L1 L2 : List Res} {r x : Res} (h : Mem F w0 w L) (p : Pick L r L1) (q : Pick L1 x L2) :
    ∃ A B, r.p A w ∧ x.p B w ∧ (∀ k, B k → ¬ A k) ∧ In F w0 A w ∧ ∀ (r' : Res) (w' : World), Upd A w w' r' → Mem F w0 w' (r' :: L1) := by
  obtain ⟨a, G, ⟨A, B, h1, h2, h3, h4⟩, c⟩ := h.pick p
  obtain ⟨C, D, h5, h6, h7, h8⟩ := q.sep h2
  have hA := fun k hk => c k ((h4 k).2 (.inl hk))
  have hB := fun k hk => c k ((h4 k).2 (.inr hk))
  have hlt := h2.lt
  refine ⟨A, C, h1, h5, fun k hC hA => h3 k hA ((h8 k).2 (.inl hC)), ⟨a, hA⟩, fun r' w' ⟨A', u1, u2, u3⟩ => ?_⟩
  refine ⟨a.then u2 fun i hi h => ?_, fun k => A' k ∨ B k, ⟨A', B, u1, h2.keeps u2 fun k hk hA' => h3 k hA' hk, fun k h5 h6 => ?_, fun k => Iff.rfl⟩, fun k hk => ?_⟩
  · rcases hA i h with h | h
    · exact h
    · omega
  · rcases u3 k h5 with h | h
    · exact h3 k h h6
    · have := hlt k h6; omega
  · rcases hk with hk | hk
    · rcases u3 k hk with h | h
      · exact hA k h
      · have := a.size; exact .inr (by omega)
    · exact hB k hk
theorem Mem.ofSep {F : Nat → Prop} {w : World} {L : List Res} (h : SepL L F w) : Mem F w w L := ⟨Keeps.refl _ _, F, h, fun k hk => .inl hk⟩
theorem Mem.updAll {F : Nat → Prop} {w0 w : World} {L : List Res} (h : Mem F w0 w L) : Upd F w0 w (allR L) := let ⟨a, G, b, c⟩ := h; ⟨G, b, a, c⟩
theorem Mem.unall {F : Nat → Prop} {w0 w : World} {L L1 : List Res} (h : Mem F w0 w (allR L1 :: L)) : Mem F w0 w (L1 ++ L) := h.open fun A hA => ⟨A, hA, fun _ h => h⟩
/-- the first things of some, as such -/
theorem Mem.stepN {F : Nat → Prop} {w0 w : World} {L1 L : List Res} (h : Mem F w0 w (L1 ++ L)) : ∃ A, SepL L1 A w ∧ In F w0 A w ∧ ∀ (r' : Res) (w' : World), Upd A w w' r' → Mem F w0 w' (r' :: L) := by
  have hm := h.close (r := allR L1) fun _ hA => hA
  obtain ⟨A, h1, h2, h3⟩ := hm.step'
  exact ⟨A, h1, ⟨hm.keepsTo, h2⟩, h3⟩
theorem Mem.stepIn {F : Nat → Prop} {w0 w : World} {L : List Res} {r : Res} (h : Mem F w0 w (r :: L)) : ∃ A, r.p A w ∧ In F w0 A w ∧ ∀ (r' : Res) (w' : World), Upd A w w' r' → Mem F w0 w' (r' :: L) := by
  obtain ⟨A, h1, h2, h3⟩ := h.step'
  exact ⟨A, h1, ⟨h.keepsTo, h2⟩, h3⟩
theorem yieldAt_wide {P : Program} {n m l : Nat} {v : Array Value} {w : World} {R : Ending → World → Prop} (h : YieldAt Fence.wide n P l v w R) : YieldAt Fence.wide m P l v w R :=
  let ⟨fn, tmps, assign, body, h1, h2⟩ := h
  ⟨fn, tmps, assign, body, h1, roundIn_wide h2⟩
theorem IterR.wide {α : Type} {P : Program} {n m gf : Nat} {lb : Array Value} {xs : List α} {Rv : α → Array Value → (Nat → Prop) → World → Prop} {X : (Nat → Prop) → World → Prop} {Q Q' : Res} (h : IterR Fence.wide n P gf lb xs Rv X Q Q') : IterR Fence.wide m P gf lb xs Rv X Q Q' :=
  fun l R Rx W A h0 hx hr => callsIn_wide.2 (callsIn_wide.1 (h l R Rx W A h0 hx fun k hk v W1 F1 h1 h2 h3 => yieldAt_wide (hr k hk v W1 F1 h1 h2 h3)))
theorem Mem.unmark {F : Nat → Prop} {w0 w w' : World} {L : List Res} {D : Nat} (h : Mem F w0 w (markR D :: L)) (hk : Keeps (fun b => b ∈ [D]) w w') : Mem F w0 w' L := by
  obtain ⟨a, G, ⟨A, B, h1, h2, h3, h4⟩, c⟩ := h
  have hD : A D := (h1.1 D).2 rfl
  have hk' : Keeps (OneB D) w w' := hk.mono fun k _ h => List.mem_singleton.1 h
  refine ⟨a.then hk' fun i hi h => ?_, B, h2.keeps hk' fun k hB h => ?_, fun k hB => c k ((h4 k).2 (.inr hB))⟩
  · rcases c D ((h4 D).2 (.inl hD)) with h5 | h5
    · rw [show i = D from h]; exact h5
    · have : i = D := h
      omega
  · rw [show k = D from h] at hB; exact h3 D hD hB
theorem Mem.mark {F : Nat → Prop} {w0 w : World} {L : List Res} {D : Nat} (h : Mem F w0 w (markR D :: L)) : ∀ E, E ∈ [D] → Mark w E := fun E hE => by
  obtain ⟨A, hA⟩ := h.get (L' := L) .here
  rw [List.mem_singleton.1 hE]; exact hA.2
theorem SepL.one {r : Res} {A : Nat → Prop} {w : World} (h : r.p A w) : SepL [r] A w := ⟨A, fun _ => False, h, fun _ h => h, fun _ _ h => h, fun k => ⟨.inl, fun h => h.resolve_right id⟩⟩
theorem Mem.unsome {F : Nat → Prop} {w0 w : World} {L : List Res} {α : Type} {R : α → Res} (h : Mem F w0 w (someR R :: L)) : ∃ c, Mem F w0 w (R c :: L) :=
  h.openE (M := fun c => [R c]) fun A hA => let ⟨c, h⟩ := hA; ⟨c, A, SepL.one h, fun _ h => h⟩
end Go.Proofs.YtcfgnbbiljohjaaGreatDoor
end
section
/- wire.split: the frames of bytes, one by one, as an iterator. Condition: its bytes lie as 'Bytes' says. -/
set_option linter.unusedVariables false
set_option linter.unusedSimpArgs false
set_option maxHeartbeats 1000000
set_option maxRecDepth 10000
namespace Go.Proofs.YtcfgnbbiljohjaaGreatDoor
open Go.RowKit
theorem splitL_n (l : List UInt8) : (splitL l).2.1 ≤ l.length := by
  unfold splitL
  split
  · exact Nat.zero_le _
  · split
    · exact Nat.zero_le _
    · split
      · exact Nat.zero_le _
      · split
        · exact Nat.zero_le _
        · dsimp only; omega
/-- the frames, and what they take up; 0 at the end of what is no frame yet -/
def piecesL : Nat → List UInt8 → List (Nat × List UInt8)
  | 0, _ => []
  | f + 1, b => if (splitL b).2.2 ≠ 0 then [] else if (splitL b).2.1 = 0 then [(0, (splitL b).1)] else ((splitL b).2.1, (splitL b).1) :: piecesL f (b.drop (splitL b).2.1)
def pieces (b : List UInt8) : List (Nat × List UInt8) := piecesL (b.length + 1) b
theorem piecesL_more : ∀ (f g : Nat) (b : List UInt8), b.length < f → b.length < g → piecesL f b = piecesL g b
  | 0, g, b, h, _ => by omega
  | f + 1, 0, b, _, h => by omega
  | f + 1, g + 1, b, hf, hg => by
    unfold piecesL
    split
    · rfl
    · split
      · rfl
      · rename_i h1 h2
        have := splitL_n b
        rw [piecesL_more f g (b.drop (splitL b).2.1) (by rw [List.length_drop]; omega) (by rw [List.length_drop]; omega)]
theorem pieces_step (b : List UInt8) : pieces b = if (splitL b).2.2 ≠ 0 then [] else if (splitL b).2.1 = 0 then [(0, (splitL b).1)] else ((splitL b).2.1, (splitL b).1) :: pieces (b.drop (splitL b).2.1) := by
  have hn := splitL_n b
  unfold pieces
  conv => lhs; unfold piecesL
  split
  · rfl
  · split
    · rfl
    · rw [piecesL_more b.length ((b.drop (splitL b).2.1).length + 1) _ (by rw [List.length_drop]; omega) (Nat.lt_succ_self _)]
/-- bytes, and a piece of them -/
def viewR (v : Value) (l : List UInt8) (x : Value) (m : List UInt8) : Res := anyR (fun F w => Bytes w F v l ∧ Bytes w F x m ∧ ∀ k, F k → k < w.heap.size)
  (fun h hk hs => ⟨h.1.keeps hk hs, h.2.1.keeps hk hs, fun k hF => Nat.lt_of_lt_of_le (h.2.2 k hF) hk.size⟩) (fun h => h.2.2)
def PieceV (p : Nat × List UInt8) (v : Array Value) (F : Nat → Prop) (w : World) : Prop := ∃ x B, v = #[.int .i64 (p.1 : Int), x] ∧ Bytes w B x p.2 ∧ ∀ k, B k → ¬ F k ∧ k < w.heap.size
theorem pieceV_ok : RvOK PieceV where
  step := fun ⟨x, B, h1, h2, h3⟩ hk hg => ⟨x, B, h1, h2.keeps hk fun k hB hF => (h3 k hB).1 hF, fun k hB => ⟨fun hG => (hg k hG).elim (h3 k hB).1 (by have := (h3 k hB).2; omega), Nat.lt_of_lt_of_le (h3 k hB).2 hk.size⟩⟩
def lenAt (w : World) (k : Nat) : Nat := match w.cell? ⟨k, 0, none⟩ with
  | some (.slice _ n _) => n
  | _ => 0
theorem Mem.unview {F : Nat → Prop} {w0 w : World} {L : List Res} {v x : Value} {l m : List UInt8} (h : Mem F w0 w (viewR v l x m :: L)) : Mem F w0 w (readR v l :: L) := h.turn fun A hA => ⟨hA.1, hA.2.2⟩
theorem iter_split (kb : Nat) (v : Value) (l : List UInt8) (hl : l.length ≤ 1099511627776) :
    IterR Fence.wide 8 Tryz.prog 130 #[.pointer (some ⟨kb, 0, none⟩)] (pieces l) PieceV NoX (listR [cellsR kb 30 [v], readR v l]) (readR v l) := by
  intro ll R Rx W A h0 _ hround
  have hm1 := (Mem.ofSep h0).unlist
  simp only [List.cons_append, List.nil_append] at hm1
  obtain ⟨a, c, rfl⟩ := (hm1.pick (.there .here)).fact fun A hA => readR.len hA
  have hm2 : Mem A W W [viewR (.slice a l.length c) l (.slice a l.length c) l, cellsR kb 30 [.slice a l.length c], R 0] := (hm1.pick (.there .here)).turn fun A hA => ⟨hA.1, hA.1, hA.2⟩
  have HM := Lib.hid hm2
  have HR := Lib.hid hround
  have HLL := Lib.hid hl
  clear h0 hround hm1 hm2 hl
  refine callsIn_of_wp Tryz.func130 rfl trivial ?_ rfl
  simp only [Tryz.ntmps130, List.size_toArray, List.length_cons, List.length_nil, Nat.reduceAdd, Nat.reduceSub, Array.replicate_succ, Array.replicate_zero, List.push_toArray, List.append_toArray, List.nil_append, List.cons_append]
  gi_wp2
  gi_loopw [] (fun wr => ∃ (k : Nat) (a2 : Option Addr) (c2 : Nat) (m : List UInt8), Hid (k ≤ (pieces l).length ∧ (pieces l).drop k = pieces m ∧ m.length ≤ l.length) ∧ Hid (Mem A W wr [viewR (.slice a l.length c) l (.slice a2 m.length c2) m, cellsR kb 30 [.slice a2 m.length c2], R k])) (fun wr => lenAt wr kb)
  case atStart => exact ⟨0, a, c, l, Lib.hid ⟨Nat.zero_le _, rfl, Nat.le_refl _⟩, HM⟩
  case round =>
    clear HM
    obtain ⟨k, a2, c2, m, HK, HM⟩ := hrel
    have hl0 : lenAt wr kb = m.length := by
      obtain ⟨A1, hA1⟩ := HM.out.get (r := cellsR kb 30 [.slice a2 m.length c2]) (by with_reducible repeat first | exact ph | apply pt)
      unfold lenAt
      rw [hA1.2.reads.1]
      rfl
    have HL0 := Lib.hid hl0
    clear hl0
    have fM := HM.out.fa
    gi_wp2_with fail
    clear fM
    obtain ⟨A1, hA1⟩ := HM.out.get (r := viewR (.slice a l.length c) l (.slice a2 m.length c2) m) (by with_reducible repeat first | exact ph | apply pt)
    refine ⟨trivial, callsIn_wide.2 ((split_any wr _ m hA1.2.1 hA1.2.2 (Nat.le_trans HK.out.2.2 HLL.out)).mono ?_)⟩
    rintro e w2 ⟨⟨x, rfl, hx⟩, hE⟩
    have hcap := hA1.2.1.cap
    have HA1 := Lib.hid hcap
    have hpc := pieces_step m
    have hnm := splitL_n m
    obtain ⟨⟨sb, n, no⟩, hs⟩ : ∃ s, splitL m = s := ⟨_, rfl⟩
    rw [hs] at hx hpc hnm ⊢
    dsimp only at hx hpc hnm ⊢
    replace HM := Lib.hid (HM.out.new (r := readR x sb) (G := New wr w2) hE ⟨hx, fun k hk => hk.2⟩ (fun k hk => hk.1))
    have HPC := Lib.hid hpc
    have HNM := Lib.hid hnm
    have HE := Lib.hid hE
    clear hE hx hpc hnm hs hA1 hcap
    clear A1
    by_cases h0 : no = 0
    case neg =>
      have d1 : (no != 0) = true := by simpa using h0
      have hk : k = (pieces l).length := by
        have h1 := HK.out.2.1
        rw [HPC.out, if_pos h0] at h1
        have := List.drop_eq_nil_iff.1 h1
        have := HK.out.1
        omega
      subst hk
      clear h0
      gi_wp2_with fail
      refine ⟨fun f h => (by cases h), ?_⟩
      gi_wp2_with fail
      refine bodyPost_ret (results_none rfl _ _ _) rfl ?_
      exact ⟨⟨_, rfl⟩, _, .inl rfl, (Mem.sub (HM.out.pick (r := viewR (.slice a l.length c) l (.slice a2 m.length c2) m) (by with_reducible repeat first | exact ph | apply pt)).unview (by repeat first | exact Sub.nil | refine Sub.cons (by with_reducible repeat first | exact ph | apply pt) ?_)).updAll⟩
    subst h0
    have hlt : k < (pieces l).length := by
      have h1 := HK.out.2.1
      apply Classical.byContradiction
      intro h
      rw [List.drop_eq_nil_of_le (by omega)] at h1
      rw [HPC.out] at h1
      by_cases hn : n = 0
      · rw [if_neg (by simp), if_pos hn] at h1; cases h1
      · rw [if_neg (by simp), if_neg hn] at h1; cases h1
    have hd2 := List.drop_eq_getElem_cons hlt
    rw [HK.out.2.1, HPC.out, if_neg (by simp)] at hd2
    have hget : (pieces l)[k] = (n, sb) ∧ (if n = 0 then (pieces l).drop (k + 1) = [] else (pieces l).drop (k + 1) = pieces (m.drop n)) := by
      by_cases hn : n = 0
      · rw [if_pos hn] at hd2 ⊢
        obtain ⟨h1, h2⟩ := List.cons.inj hd2
        exact ⟨by rw [← h1, hn], h2.symm⟩
      · rw [if_neg hn] at hd2 ⊢
        obtain ⟨h1, h2⟩ := List.cons.inj hd2
        exact ⟨h1.symm, h2.symm⟩
    have HG := Lib.hid hget
    have HLT := Lib.hid hlt
    clear hd2 hget
    obtain ⟨F1, B, hF1, hB, hd, hFA, hS⟩ := HM.out.beside (r := R k) (x := readR x sb) (by with_reducible repeat first | exact ph | apply pt) (by with_reducible repeat first | exact ph | apply pt)
    obtain ⟨fn, tmps, assign, body, hy, hRd⟩ := HR.out k hlt #[.int .i64 (n : Int), x] w2 F1 hFA hF1 (by rw [HG.out.1]; exact ⟨x, B, rfl, hB.1, fun j hj => ⟨hd j hj, hB.2 j hj⟩⟩)
    have HRd := Lib.hid hRd
    have HSS := Lib.hid hS
    clear hRd hS hd hB hF1 hFA
    gi_wp2_with fail
    refine (roundIn_wide HRd.out).mono ?_
    rintro e W3 (⟨rfl, hU⟩ | ⟨rfl, hU⟩)
    · replace HM := Lib.hid (HSS.out _ _ hU)
      clear hU HSS hy HRd
      by_cases hn : n = 0
      · have hg := HG.out.2
        rw [if_pos hn] at hg
        have hk : k + 1 = (pieces l).length := by
          have := List.drop_eq_nil_iff.1 hg
          omega
        rw [hk] at HM
        have hn' : (n : Int) = 0 := by omega
        clear hg hk
        subst hn
        have fM := HM.out.fa
        gi_wp2_with fail
        clear fM
        refine bodyPost_ret (results_none rfl _ _ _) rfl ?_
        exact ⟨⟨_, rfl⟩, _, .inl rfl, (Mem.sub (HM.out.pick (r := viewR (.slice a l.length c) l (.slice a2 m.length c2) m) (by with_reducible repeat first | exact ph | apply pt)).unview (by repeat first | exact Sub.nil | refine Sub.cons (by with_reducible repeat first | exact ph | apply pt) ?_)).updAll⟩
      · have hg := HG.out.2
        rw [if_neg hn] at hg
        have hn' : ((n : Int) == 0) = false := by simp; omega
        have hsl : ∀ W, (Instr.sliceAt 30 (.slice a2 m.length c2) (some (.int .i64 (n : Int))) none none).run Tryz.prog W = .ok (sliced a2 n m.length c2 1) W := fun W => slice_l W a2 m.length c2 n HNM.out
        obtain ⟨A1, hA1⟩ := HM.out.get (r := viewR (.slice a l.length c) l (.slice a2 m.length c2) m) (by with_reducible repeat first | exact ph | apply pt)
        have hpart := hA1.2.1.part n m.length HNM.out (Nat.le_refl _)
        rw [List.take_length] at hpart
        obtain ⟨a3, c3, he3⟩ := hpart.len
        rw [he3] at hsl
        have hm3 := (HM.out.pick (r := viewR (.slice a l.length c) l (.slice a2 m.length c2) m) (by with_reducible repeat first | exact ph | apply pt)).turn (r' := viewR (.slice a l.length c) l (.slice a3 (m.drop n).length c3) (m.drop n)) fun A hA => ⟨hA.1, by have := hA.2.1.part n m.length HNM.out (Nat.le_refl _); rw [List.take_length, he3] at this; exact this, hA.2.2⟩
        obtain ⟨m3, hm3e⟩ : ∃ m3, m.drop n = m3 := ⟨_, rfl⟩
        have HM3 := Lib.hid (show m3.length < m.length ∧ m3.length ≤ l.length by
          have h1 := HNM.out
          have h2 := HK.out.2.2
          rw [← hm3e, List.length_drop]
          omega)
        rw [hm3e] at hm3 hsl hg
        have HGG := Lib.hid hg
        replace HM := Lib.hid hm3
        clear hm3 hA1 hpart he3 hg hm3e
        clear A1
        have fM := HM.out.fa
        gi_wp2_with fail
        clear fM
        have hm9 := HM.out.to (w' := W3.setCell ⟨kb, 0, none⟩ (.slice a3 m3.length c3))
        refine ⟨⟨k + 1, a3, c3, m3, Lib.hid ⟨HLT.out, HGG.out, HM3.out.2⟩, Lib.hid (Mem.sub hm9 (by repeat first | exact Sub.nil | refine Sub.cons (by with_reducible repeat first | exact ph | apply pt) ?_))⟩, ?_⟩
        obtain ⟨A1, hA1⟩ := hm9.get (r := cellsR kb 30 [.slice a3 m3.length c3]) (by with_reducible repeat first | exact ph | apply pt)
        rw [HL0.out]
        unfold lenAt
        rw [hA1.2.reads.1]
        exact HM3.out.1
    · replace HM := Lib.hid (HSS.out _ _ hU)
      clear hU HSS hy HRd
      gi_wp2_with fail
      refine bodyPost_ret (results_none rfl _ _ _) rfl ?_
      exact ⟨⟨_, rfl⟩, _, .inr ⟨k, HLT.out, rfl⟩, (Mem.sub (HM.out.pick (r := viewR (.slice a l.length c) l (.slice a2 m.length c2) m) (by with_reducible repeat first | exact ph | apply pt)).unview (by repeat first | exact Sub.nil | refine Sub.cons (by with_reducible repeat first | exact ph | apply pt) ?_)).updAll⟩
end Go.Proofs.YtcfgnbbiljohjaaGreatDoor
end
section
/- wire.Frames: the frames of bytes and where they end, one by one, as an iterator over a copy. Condition: its bytes lie as 'Bytes' says. -/
set_option linter.unusedVariables false
set_option linter.unusedSimpArgs false
set_option maxHeartbeats 1000000
set_option maxRecDepth 10000
namespace Go.Proofs.YtcfgnbbiljohjaaGreatDoor
open Go.RowKit
attribute [local go_sem] Oper.semAt_some
/-- where the frames end -/
def framesOf : Nat → List (Nat × List UInt8) → List (Nat × List UInt8)
  | _, [] => []
  | s, (n, b) :: r => if n = 0 then [] else (s + n, b) :: framesOf (s + n) r
def framesL (l : List UInt8) : List (Nat × List UInt8) := framesOf 0 (pieces l)
def sumP (P : List (Nat × List UInt8)) : Nat := (P.map Prod.fst).sum
def nz (P : List (Nat × List UInt8)) (k : Nat) : Prop := ∀ i, i < k → ∀ p, P[i]? = some p → p.1 ≠ 0
theorem nz_succ {P : List (Nat × List UInt8)} {k : Nat} {p : Nat × List UInt8} (h : nz P k) (hp : P[k]? = some p) (h0 : p.1 ≠ 0) : nz P (k + 1) := fun i hi q hq => by
  by_cases hik : i < k
  · exact h i hik q hq
  · obtain rfl : i = k := by omega
    rw [hp] at hq; cases hq; exact h0
theorem frames_get : ∀ (P : List (Nat × List UInt8)) (s k : Nat) (p : Nat × List UInt8), nz P (k + 1) → P[k]? = some p → (framesOf s P)[k]? = some (s + sumP (P.take (k + 1)), p.2)
  | [], s, k, p, _, h => by cases h
  | (n, b) :: P, s, 0, p, hn, h => by
    cases h
    have : n ≠ 0 := hn 0 (by omega) _ rfl
    unfold framesOf
    rw [if_neg this]
    simp [sumP]
  | (n, b) :: P, s, k + 1, p, hn, h => by
    have : n ≠ 0 := hn 0 (by omega) _ rfl
    unfold framesOf
    rw [if_neg this, List.getElem?_cons_succ, frames_get P (s + n) k p (fun i hi q hq => hn (i + 1) (by omega) q (by simpa using hq)) (by simpa using h)]
    simp [sumP, Nat.add_assoc]
theorem frames_len : ∀ (P : List (Nat × List UInt8)) (s : Nat), nz P P.length → (framesOf s P).length = P.length
  | [], s, _ => rfl
  | (n, b) :: P, s, hn => by
    have : n ≠ 0 := hn 0 (by simp) _ rfl
    unfold framesOf
    rw [if_neg this, List.length_cons, frames_len P (s + n) (fun i hi q hq => hn (i + 1) (by simp; omega) q (by simpa using hq)), List.length_cons]
theorem frames_stop : ∀ (P : List (Nat × List UInt8)) (s k : Nat) (p : Nat × List UInt8), nz P k → P[k]? = some p → p.1 = 0 → (framesOf s P).length = k
  | [], s, k, p, _, h, _ => by cases h
  | (n, b) :: P, s, 0, p, hn, h, h0 => by
    cases h
    unfold framesOf
    rw [if_pos h0]; rfl
  | (n, b) :: P, s, k + 1, p, hn, h, h0 => by
    have : n ≠ 0 := hn 0 (by omega) _ rfl
    unfold framesOf
    rw [if_neg this, List.length_cons, frames_stop P (s + n) k p (fun i hi q hq => hn (i + 1) (by omega) q (by simpa using hq)) (by simpa using h) h0]
theorem pieces_sum : ∀ (f : Nat) (l : List UInt8), sumP (piecesL f l) ≤ l.length
  | 0, l => Nat.zero_le _
  | f + 1, l => by
    unfold piecesL
    split
    · exact Nat.zero_le _
    · split
      · simp [sumP]
      · have h1 := splitL_n l
        have h2 := pieces_sum f (l.drop (splitL l).2.1)
        rw [List.length_drop] at h2
        have h3 : ∀ (p : Nat × List UInt8) (P : List (Nat × List UInt8)), sumP (p :: P) = p.1 + sumP P := fun p P => by simp [sumP]
        rw [h3]
        dsimp only
        omega
theorem sumP_take (P : List (Nat × List UInt8)) (k : Nat) : sumP (P.take k) ≤ sumP P := by
  have := List.take_append_drop k P
  have h2 : sumP P = sumP (P.take k) + sumP (P.drop k) := by
    conv => lhs; rw [← this]
    unfold sumP
    rw [List.map_append, List.sum_append]
  omega
theorem sumP_succ (P : List (Nat × List UInt8)) (k : Nat) (p : Nat × List UInt8) (h : P[k]? = some p) : sumP (P.take (k + 1)) = sumP (P.take k) + p.1 := by
  obtain ⟨hk, he⟩ := List.getElem?_eq_some_iff.1 h
  rw [List.take_succ_eq_append_getElem hk, he]
  simp [sumP]
theorem splitf_any (w : World) (a : Option Addr) (n c : Nat) : Calls Tryz.prog 83 #[.slice a n c] w fun e w' => e = .returned (.func (.func 130) #[] #[.pointer (some ⟨w.heap.size, 0, none⟩)]) ∧ w' = w.alloc (.cells #[.slice a n c] 30) := by
  go_enter Tryz.func83, Tryz.ntmps83
  go_wp2_with fail
  go_ret
  exact ⟨rfl, rfl⟩
/-- an end of a loop: all was handed on, or it was left -/
def endR (R Rx : Nat → Res) (n : Nat) : Res := someR fun c : { r : Res // r = R n ∨ ∃ j, j < n ∧ r = Rx (j + 1) } => c.1
theorem iter_frames (kb : Nat) (v : Value) (l : List UInt8) (hl : l.length ≤ 1099511627776) :
    IterR Fence.wide 8 Tryz.prog 82 #[.pointer (some ⟨kb, 0, none⟩)] (framesL l) PieceV NoX (listR [cellsR kb 30 [v], readR v l]) (listR [cellsR kb 30 [v], readR v l]) := by
  intro ll R Rx W A h0 _ hround
  have hm1 := (Mem.ofSep h0).unlist
  simp only [List.cons_append, List.nil_append] at hm1
  obtain ⟨a, c, rfl⟩ := (hm1.pick (.there .here)).fact fun A hA => readR.len hA
  have HM := Lib.hid hm1
  have HR := Lib.hid hround
  have HLL := Lib.hid hl
  clear h0 hround hm1 hl
  refine callsIn_of_wp_marks Tryz.func82 rfl trivial ?_ rfl
  simp only [Tryz.ntmps82, List.size_toArray, List.length_cons, List.length_nil, Nat.reduceAdd, Nat.reduceSub, Array.replicate_succ, Array.replicate_zero, List.push_toArray, List.append_toArray, List.nil_append, List.cons_append]
  have fM := HM.out.fa
  gi_wp2_with fail
  refine wpIn_scope ?_
  gi_wp2_with fail
  refine wpIn_label ?_
  gi_wp2_with fail
  clear fM
  refine ⟨trivial, callsIn_wide.2 ?_⟩
  refine nxt HM fun w1 M => ?_
  clear HM; have HM := M; clear M
  refine (splitf_any w1 a l.length c).mono ?_
  rintro e w2 ⟨rfl, rfl⟩
  gi_wp2_with fail
  refine nxt HM fun w2 M => ?_
  clear HM; have HM := M; clear M
  obtain ⟨k2, hk2⟩ : ∃ k, W.heap.size = k := ⟨_, rfl⟩
  obtain ⟨k3, hk3⟩ : ∃ k, W.heap.size + 1 = k := ⟨_, rfl⟩
  obtain ⟨k5, hk5⟩ : ∃ k, w1.heap.size = k := ⟨_, rfl⟩
  rw [hk3, hk2, hk5] at HM ⊢
  clear hk2 hk3 hk5
  obtain ⟨P, hP⟩ : ∃ P, pieces l = P := ⟨_, rfl⟩
  have HP := Lib.hid hP
  have HPS := Lib.hid (show sumP P ≤ l.length by rw [← hP]; exact pieces_sum _ _)
  have hFL : framesL l = framesOf 0 P := by rw [← hP]; rfl
  have HFL := Lib.hid hFL
  clear hP hFL
  obtain ⟨R1, hR1⟩ : ∃ R1 : Nat → Res, R1 = fun k => condR (nz P k) (listR [cellsR k2 142 [.func (.yield ll) #[] #[]], cellsR k3 3 [.int .i64 (sumP (P.take k) : Int)], cellsR kb 30 [.slice a l.length c], R k]) := ⟨_, rfl⟩
  obtain ⟨R2, hR2⟩ : ∃ R2 : Nat → Res, R2 = fun k => listR [cellsR kb 30 [.slice a l.length c], endR R Rx (framesL l).length] := ⟨_, rfl⟩
  have h1 := Mem.list' (L1 := [cellsR k2 142 [.func (.yield ll) #[] #[]], cellsR k3 3 [.int .i64 0], cellsR kb 30 [.slice a l.length c], R 0]) (L := [cellsR k5 30 [.slice a l.length c], readR (.slice a l.length c) l]) (Mem.sub HM.out (by repeat first | exact Sub.nil | refine Sub.cons (by with_reducible repeat first | exact ph | apply pt) ?_))
  have h2 := h1.turn (r' := R1 0) fun A h => by rw [hR1]; exact ⟨fun i hi => by omega, h⟩
  have h3 := Mem.list' (L1 := [cellsR k5 30 [.slice a l.length c], readR (.slice a l.length c) l]) (L := [R1 0]) (Mem.sub h2 (by repeat first | exact Sub.nil | refine Sub.cons (by with_reducible repeat first | exact ph | apply pt) ?_))
  obtain ⟨C, hC, hCI, hS⟩ := Mem.stepN (L1 := [listR [cellsR k5 30 [.slice a l.length c], readR (.slice a l.length c) l], R1 0]) (L := []) h3
  have HS := Lib.hid hS
  have HE2 := Lib.hid hCI
  have HR1 := Lib.hid hR1
  have HR2 := Lib.hid hR2
  clear h1 h2 h3 HM hS hR1 hR2 hCI
  have hsp := (iter_split k5 (.slice a l.length c) l HLL.out).wide (m := 7)
  rw [HP.out] at hsp
  refine wpIn_rangeR_break rfl (by omega) (gf := 130) (lb := #[.pointer (some ⟨k5, 0, none⟩)]) rfl trivial (enters_of Tryz.func130 (by kernel_rfl) rfl) pieceV_ok noX_ok hsp (by rintro x v F W ⟨y, B, rfl, -⟩; rfl) R1 R2 hC trivial ?_ ?_
  · clear hC hsp
    intro k hk v F0 W2 _ hR hv hlt
    obtain ⟨x, B, rfl, -⟩ := hv
    gi_wp2_with fail
    refine ⟨R1 k, ⟨F0, hR, Keeps.refl _ _, fun _ h => .inl h⟩, fun F1 W3 hK3 hR3 hv3 hlt3 => ?_⟩
    have HK3 := Lib.hid hK3
    clear hK3
    clear hR
    have hpk : P[k]? = some P[k] := List.getElem?_eq_getElem hk
    obtain ⟨⟨n, m⟩, hp⟩ : ∃ p, P[k] = p := ⟨_, rfl⟩
    rw [hp] at hv3 hpk ⊢
    dsimp only at hv3 ⊢
    obtain ⟨x', B, hx, hb, hB⟩ := hv3
    obtain rfl : x = x' := by simpa using hx
    rw [HR1.out] at hR3
    obtain ⟨hnz, hR3⟩ := hR3
    have hm := (Mem.start hR3).unlist
    simp only [List.cons_append, List.nil_append] at hm
    have HM := Lib.hid hm
    have HB := Lib.hid hb
    have HB2 := Lib.hid hB
    have HNZ := Lib.hid hnz
    have HPK := Lib.hid hpk
    have hsu := sumP_succ P k _ hpk
    have hst := sumP_take P (k + 1)
    obtain ⟨s, hs⟩ : ∃ s, sumP (P.take k) = s := ⟨_, rfl⟩
    rw [hs] at HM hsu
    dsimp only at hsu
    obtain ⟨s2, hs2⟩ : ∃ s2, sumP (P.take (k + 1)) = s2 := ⟨_, rfl⟩
    rw [hs2] at hsu hst
    have HS2 := Lib.hid hs2
    have hw : wrap64 ((s : Int) + (n : Int)) = (s2 : Int) := by
      have := HPS.out
      have := HLL.out
      rw [hsu, Int.natCast_add]
      exact IntWalk.wrap64_in _ (by omega)
    clear hm hb hB hnz hpk hR3 hx hp hs hs2 hsu hst
    by_cases hn : n = 0
    · subst hn
      have hlen := frames_stop P 0 k _ HNZ.out HPK.out rfl
      rw [← HFL.out] at hlen
      have HLN := Lib.hid hlen
      clear hlen
      have fM := HM.out.fa
      gi_wp2_with fail
      refine ⟨fun f h => (by cases h), ?_⟩
      gi_wp2_with fail
      clear fM
      show Upd F1 W3 _ (condR _ (R2 (k + 1)))
      refine nxt HM fun W9 M => ?_
      clear HM; have HM := M; clear M
      rw [HR2.out]
      have g1 := (HM.out.pick (r := R k) (by with_reducible repeat first | exact ph | apply pt)).turn (r' := endR R Rx (framesL l).length) fun A h => ⟨⟨R k, .inl (by rw [HLN.out])⟩, h⟩
      have g2 := Mem.list' (L1 := [cellsR kb 30 [.slice a l.length c], endR R Rx (framesL l).length]) (L := []) (Mem.sub g1 (by repeat first | exact Sub.nil | refine Sub.cons (by with_reducible repeat first | exact ph | apply pt) ?_))
      exact (g2.turn (r' := condR (Code.exit 0 = Code.exit 0) (listR [cellsR kb 30 [.slice a l.length c], endR R Rx (framesL l).length])) fun A h => ⟨rfl, h⟩).upd
    · have hn' : ((n : Int) == 0) = false := by simp; omega
      have hg := frames_get P 0 k _ (nz_succ HNZ.out HPK.out hn) HPK.out
      rw [← HFL.out, HS2.out, Nat.zero_add] at hg
      obtain ⟨hkl, hge⟩ := List.getElem?_eq_some_iff.1 hg
      have HKL := Lib.hid hkl
      have HN := Lib.hid hn
      have hm4 := HM.out.to (w' := W3.setCell ⟨k3, 0, none⟩ (.int .i64 (s2 : Int)))
      obtain ⟨W4, hW4⟩ : ∃ W4, W3.setCell ⟨k3, 0, none⟩ (.int .i64 (s2 : Int)) = W4 := ⟨_, rfl⟩
      rw [hW4] at hm4
      obtain ⟨F2, hF2, hF2i, hS2⟩ := (hm4.pick (r := R k) (by with_reducible repeat first | exact ph | apply pt)).stepIn
      have hF2b := hF2i.2
      obtain ⟨fn, tmps, assign, body, hy, hRd⟩ := HR.out k hkl #[.int .i64 (s2 : Int), x] W4 F2 (HE2.out.trans (HK3.out.trans hF2i)) hF2 (by
        rw [hge]
        exact ⟨x, B, rfl, HB.out.keeps hm4.keepsTo (fun j hj => (HB2.out j hj).1), fun j hj => ⟨fun h => (hF2b j h).elim (HB2.out j hj).1 (by have := (HB2.out j hj).2; omega), Nat.lt_of_lt_of_le (HB2.out j hj).2 hm4.keepsTo.size⟩⟩)
      rw [← hW4] at hy
      have HRd := Lib.hid hRd
      have HSS := Lib.hid hS2
      have HW4 := Lib.hid hW4
      clear hRd hS2 hF2b hF2i hF2 hge hn hm4 hg hW4
      have fM := HM.out.fa
      gi_wp2_with fail
      clear fM
      rw [HW4.out]
      refine (roundIn_any HRd.out).mono ?_
      rintro e W5 (⟨rfl, hU⟩ | ⟨rfl, hU⟩)
      · replace HM := Lib.hid (HSS.out _ _ hU)
        clear hU HSS hy HRd
        gi_wp2_with fail
        show Upd F1 W3 _ (R1 (k + 1))
        refine nxt HM fun W9 M => ?_
        clear HM; have HM := M; clear M
        rw [HR1.out]
        have g2 := Mem.list' (L1 := [cellsR k2 142 [.func (.yield ll) #[] #[]], cellsR k3 3 [.int .i64 (s2 : Int)], cellsR kb 30 [.slice a l.length c], R (k + 1)]) (L := []) (Mem.sub HM.out (by repeat first | exact Sub.nil | refine Sub.cons (by with_reducible repeat first | exact ph | apply pt) ?_))
        rw [← HS2.out] at g2
        exact (g2.turn (r' := condR (nz P (k + 1)) (listR [cellsR k2 142 [.func (.yield ll) #[] #[]], cellsR k3 3 [.int .i64 (sumP (P.take (k + 1)) : Int)], cellsR kb 30 [.slice a l.length c], R (k + 1)])) fun A h => ⟨nz_succ HNZ.out HPK.out HN.out, h⟩).upd
      · replace HM := Lib.hid (HSS.out _ _ hU)
        clear hU HSS hy HRd
        gi_wp2_with fail
        show Upd F1 W3 _ (condR _ (R2 (k + 1)))
        refine nxt HM fun W9 M => ?_
        clear HM; have HM := M; clear M
        rw [HR2.out]
        have g1 := (HM.out.pick (r := Rx (k + 1)) (by with_reducible repeat first | exact ph | apply pt)).turn (r' := endR R Rx (framesL l).length) fun A h => ⟨⟨Rx (k + 1), .inr ⟨k, HKL.out, rfl⟩⟩, h⟩
        have g2 := Mem.list' (L1 := [cellsR kb 30 [.slice a l.length c], endR R Rx (framesL l).length]) (L := []) (Mem.sub g1 (by repeat first | exact Sub.nil | refine Sub.cons (by with_reducible repeat first | exact ph | apply pt) ?_))
        exact (g2.turn (r' := condR (Code.exit 0 = Code.exit 0) (listR [cellsR kb 30 [.slice a l.length c], endR R Rx (framesL l).length])) fun A h => ⟨rfl, h⟩).upd
  · clear hC hsp
    intro W3 r hr hU
    have hm := (HS.out _ _ hU).unall
    simp only [List.cons_append, List.nil_append] at hm
    have hm2 : Mem A W W3 [markR w2.heap.size, listR [cellsR kb 30 [.slice a l.length c], readR (.slice a l.length c) l], endR R Rx (framesL l).length] := by
      rcases hr with rfl | ⟨k, hk, rfl⟩
      · have h1 := hm.pick (r := R1 P.length) (by with_reducible repeat first | exact ph | apply pt)
        rw [HR1.out] at h1
        have hz := h1.fact fun A h => h.1
        have h2 := (h1.turn (r' := listR [cellsR k2 142 [.func (.yield ll) #[] #[]], cellsR k3 3 [.int .i64 (sumP (P.take P.length) : Int)], cellsR kb 30 [.slice a l.length c], R P.length]) fun A h => h.2).unlist
        simp only [List.cons_append, List.nil_append] at h2
        have h3 := (h2.pick (r := R P.length) (by with_reducible repeat first | exact ph | apply pt)).turn (r' := endR R Rx (framesL l).length) fun A h => ⟨⟨R P.length, .inl (by rw [HFL.out, frames_len P 0 hz])⟩, h⟩
        have h4 := Mem.list' (L1 := [cellsR kb 30 [.slice a l.length c], readR (.slice a l.length c) l]) (L := [endR R Rx (framesL l).length, markR w2.heap.size]) (Mem.sub h3 (by repeat first | exact Sub.nil | refine Sub.cons (by with_reducible repeat first | exact ph | apply pt) ?_))
        exact Mem.sub h4 (by repeat first | exact Sub.nil | refine Sub.cons (by with_reducible repeat first | exact ph | apply pt) ?_)
      · have h1 := hm.pick (r := R2 (k + 1)) (by with_reducible repeat first | exact ph | apply pt)
        rw [HR2.out] at h1
        have h2 := h1.unlist
        simp only [List.cons_append, List.nil_append] at h2
        have h4 := Mem.list' (L1 := [cellsR kb 30 [.slice a l.length c], readR (.slice a l.length c) l]) (L := [endR R Rx (framesL l).length, markR w2.heap.size]) (Mem.sub h2 (by repeat first | exact Sub.nil | refine Sub.cons (by with_reducible repeat first | exact ph | apply pt) ?_))
        exact Mem.sub h4 (by repeat first | exact Sub.nil | refine Sub.cons (by with_reducible repeat first | exact ph | apply pt) ?_)
    have HM := Lib.hid hm2
    clear hm hm2 hr hU
    gi_wp2_with fail
    rw [Exit.noGoto_normal]
    refine leaves_marks [w2.heap.size] _ (by simp) HM.out.mark ?_
    intro w' hk
    have hm := HM.out.unmark hk
    obtain ⟨⟨r, hr⟩, h1⟩ := Mem.unsome (hm.pick (r := endR R Rx (framesL l).length) (by with_reducible repeat first | exact ph | apply pt))
    exact ⟨.tuple #[], results_none rfl _ _ _, ⟨_, rfl⟩, r, hr, (Mem.sub (L' := [listR [cellsR kb 30 [.slice a l.length c], readR (.slice a l.length c) l], r]) h1 (by repeat first | exact Sub.nil | refine Sub.cons (by with_reducible repeat first | exact ph | apply pt) ?_)).updAll⟩
end Go.Proofs.YtcfgnbbiljohjaaGreatDoor
end
section
/- frames.All: what a stream tells, one by one, as an iterator over a copy. Conditions: its bytes lie as 'Bytes' says; unicode/utf8's tables read as they are laid. -/
set_option linter.unusedVariables false
set_option linter.unusedSimpArgs false
set_option maxHeartbeats 1000000
set_option maxRecDepth 10000
namespace Go.Proofs.YtcfgnbbiljohjaaGreatDoor
open Go.RowKit
attribute [local go_sem] Oper.semAt_some
theorem bclone_any {A : Nat → Prop} (w : World) (a : Option Addr) (c : Nat) (l : List UInt8) (h : Bytes w A (.slice a l.length c) l) (hl : l.length ≤ 1099511627776) :
    Calls Tryz.prog 50 #[.slice a l.length c] w fun e w' => ∃ v', e = .returned v' ∧ Upd NoB w w' (bytR v' l) := by
  have HM := Lib.hid (Mem.start0 w)
  have HB := Lib.hid h
  have HLL := Lib.hid hl
  clear hl
  cases a with
  | none =>
    obtain rfl : l = [] := by
      rcases h with ⟨a', h1, h2⟩ | ⟨b, o, c', h1, h2, h3, h4⟩
      · exact h2
      · cases h1
    have hq := eq_noneU
    go_enter Tryz.func50, Tryz.ntmps50
    go_wp2_with fail
    go_ret
    exact ⟨_, rfl, HM.out.bytNil.upd⟩
  | some ad =>
    clear h
    have hq := eq_sliceU
    go_enter Tryz.func50, Tryz.ntmps50
    go_wp2_with (at_builtin; refine standing ?_)
    refine nxt HM fun w1 M => ?_
    clear HM; have HM := M; clear M
    replace HM := Lib.hid HM.out.bytEmpty
    obtain ⟨v9, w9, hr, hm⟩ := Mem.bytAdd 30 HM.out _ l (HB.out.ext HM.out.extTo) (by have := HLL.out; simp; omega)
    rw [List.nil_append] at hm
    replace HM := Lib.hid hm
    refine ⟨?_⟩
    refine wpList_append_ran rfl _ _ hr rfl rfl rfl ?_
    clear hr hm
    go_wp2_with fail
    go_ret
    exact ⟨_, rfl, HM.out.upd⟩
theorem frames_any {A : Nat → Prop} (w : World) (a : Option Addr) (c : Nat) (l : List UInt8) (h : Bytes w A (.slice a l.length c) l) (hl : l.length ≤ 1099511627776) :
    Calls Tryz.prog 52 #[.slice a l.length c] w fun e w' => ∃ k v, e = .returned (.func (.func 82) #[] #[.pointer (some ⟨k, 0, none⟩)]) ∧ Upd NoB w w' (listR [cellsR k 30 [v], bytR v l]) := by
  have HM := Lib.hid (Mem.start0 w)
  have HB := Lib.hid h
  have HLL := Lib.hid hl
  have hmf : ∀ (fn : Fn) (first cap : Array Value) (w : World), (Instr.makeFunc fn first cap).run Tryz.prog w = .ok (.func fn first cap) w := fun _ _ _ _ => rfl
  clear hl h
  go_enter Tryz.func52, Tryz.ntmps52
  have fM := HM.out.fa
  go_wp2_with fail
  all_goals clear fM
  refine nxt HM fun w1 M => ?_
  clear HM; have HM := M; clear M
  refine (bclone_any w1 a c l (HB.out.ext HM.out.extTo) HLL.out).mono ?_
  rintro e w2 ⟨v, rfl, hU⟩
  obtain ⟨F2, u1, u2, u3⟩ := hU
  obtain ⟨a2, c2, rfl⟩ := bytR.len u1
  replace HM := Lib.hid (HM.out.new (r := bytR (.slice a2 l.length c2) l) (G := F2) u2 u1 (fun k hk => (u3 k hk).elim (fun h => (noB _ h).elim) id))
  clear u1 u2 u3
  clear F2
  have fM := HM.out.fa
  go_wp2_with fail
  all_goals clear fM
  refine nxt HM fun w3 M => ?_
  clear HM; have HM := M; clear M
  go_ret
  exact ⟨w.heap.size, .slice a2 l.length c2, rfl, (Mem.list' (L1 := [cellsR w.heap.size 30 [.slice a2 l.length c2], bytR (.slice a2 l.length c2) l]) (L := []) (Mem.sub HM.out (by repeat first | exact Sub.nil | refine Sub.cons (by with_reducible repeat first | exact ph | apply pt) ?_))).upd⟩
theorem all_any {A : Nat → Prop} (w : World) (a : Option Addr) (c : Nat) (l : List UInt8) (h : Bytes w A (.slice a l.length c) l) (hl : l.length ≤ 1099511627776) :
    Calls Tryz.prog 23 #[.slice a l.length c] w fun e w' => ∃ k v, e = .returned (.func (.func 51) #[] #[.pointer (some ⟨k, 0, none⟩)]) ∧ Upd NoB w w' (listR [cellsR k 30 [v], bytR v l]) := by
  have HM := Lib.hid (Mem.start0 w)
  have HB := Lib.hid h
  have HLL := Lib.hid hl
  have hmf : ∀ (fn : Fn) (first cap : Array Value) (w : World), (Instr.makeFunc fn first cap).run Tryz.prog w = .ok (.func fn first cap) w := fun _ _ _ _ => rfl
  clear hl h
  go_enter Tryz.func23, Tryz.ntmps23
  have fM := HM.out.fa
  go_wp2_with fail
  all_goals clear fM
  refine nxt HM fun w1 M => ?_
  clear HM; have HM := M; clear M
  refine (bclone_any w1 a c l (HB.out.ext HM.out.extTo) HLL.out).mono ?_
  rintro e w2 ⟨v, rfl, hU⟩
  obtain ⟨F2, u1, u2, u3⟩ := hU
  obtain ⟨a2, c2, rfl⟩ := bytR.len u1
  replace HM := Lib.hid (HM.out.new (r := bytR (.slice a2 l.length c2) l) (G := F2) u2 u1 (fun k hk => (u3 k hk).elim (fun h => (noB _ h).elim) id))
  clear u1 u2 u3
  clear F2
  have fM := HM.out.fa
  go_wp2_with fail
  all_goals clear fM
  refine nxt HM fun w3 M => ?_
  clear HM; have HM := M; clear M
  go_ret
  exact ⟨w.heap.size, .slice a2 l.length c2, rfl, (Mem.list' (L1 := [cellsR w.heap.size 30 [.slice a2 l.length c2], bytR (.slice a2 l.length c2) l]) (L := []) (Mem.sub HM.out (by repeat first | exact Sub.nil | refine Sub.cons (by with_reducible repeat first | exact ph | apply pt) ?_))).upd⟩
/-- what a stream tells -/
def allOf : List (Nat × List UInt8) → List (Nat × Sd)
  | [] => []
  | (n, m) :: r => if (parseL m).2 ≠ 0 then [] else (n, (parseL m).1) :: allOf r
def allL (l : List UInt8) : List (Nat × Sd) := allOf (framesL l)
def okP (P : List (Nat × List UInt8)) (k : Nat) : Prop := ∀ i, i < k → ∀ p, P[i]? = some p → (parseL p.2).2 = 0
theorem okP_succ {P : List (Nat × List UInt8)} {k : Nat} {p : Nat × List UInt8} (h : okP P k) (hp : P[k]? = some p) (h0 : (parseL p.2).2 = 0) : okP P (k + 1) := fun i hi q hq => by
  by_cases hik : i < k
  · exact h i hik q hq
  · obtain rfl : i = k := by omega
    rw [hp] at hq; cases hq; exact h0
theorem all_get : ∀ (P : List (Nat × List UInt8)) (k : Nat) (p : Nat × List UInt8), okP P (k + 1) → P[k]? = some p → (allOf P)[k]? = some (p.1, (parseL p.2).1)
  | [], k, p, _, h => by cases h
  | (n, b) :: P, 0, p, hn, h => by
    cases h
    have : (parseL b).2 = 0 := hn 0 (by omega) _ rfl
    unfold allOf
    rw [if_neg (by simp [this])]
    rfl
  | (n, b) :: P, k + 1, p, hn, h => by
    have : (parseL b).2 = 0 := hn 0 (by omega) _ rfl
    unfold allOf
    rw [if_neg (by simp [this]), List.getElem?_cons_succ, all_get P k p (fun i hi q hq => hn (i + 1) (by omega) q (by simpa using hq)) (by simpa using h)]
theorem all_len : ∀ (P : List (Nat × List UInt8)), okP P P.length → (allOf P).length = P.length
  | [], _ => rfl
  | (n, b) :: P, hn => by
    have : (parseL b).2 = 0 := hn 0 (by simp) _ rfl
    unfold allOf
    rw [if_neg (by simp [this]), List.length_cons, all_len P (fun i hi q hq => hn (i + 1) (by simp; omega) q (by simpa using hq)), List.length_cons]
theorem all_stop : ∀ (P : List (Nat × List UInt8)) (k : Nat) (p : Nat × List UInt8), okP P k → P[k]? = some p → (parseL p.2).2 ≠ 0 → (allOf P).length = k
  | [], k, p, _, h, _ => by cases h
  | (n, b) :: P, 0, p, hn, h, h0 => by
    cases h
    unfold allOf
    rw [if_pos h0]; rfl
  | (n, b) :: P, k + 1, p, hn, h, h0 => by
    have : (parseL b).2 = 0 := hn 0 (by omega) _ rfl
    unfold allOf
    rw [if_neg (by simp [this]), List.length_cons, all_stop P k p (fun i hi q hq => hn (i + 1) (by omega) q (by simpa using hq)) (by simpa using h) h0]
def SaidV (p : Nat × Sd) (v : Array Value) (_ : Nat → Prop) (_ : World) : Prop := v = #[.int .i64 (p.1 : Int), p.2.v]
theorem saidV_ok : RvOK SaidV where
  step := fun h _ _ => h
/-- the tables, and that they are none's own -/
def TabX (A : Nat → Prop) (w : World) : Prop := Tabs w ∧ ¬ A (Tryz.laysValid_ren.g 3) ∧ ¬ A (Tryz.laysValid_ren.g 4)
theorem Tabs.lt {w : World} (h : Tabs w) : Tryz.laysValid_ren.g 3 < w.heap.size ∧ Tryz.laysValid_ren.g 4 < w.heap.size :=
  ⟨World.block_lt_of_cell? w ⟨_, 0, none⟩ (h.1 0 (by decide)), World.block_lt_of_cell? w ⟨_, 0, none⟩ (h.2 0 (by decide)).1⟩
theorem Tabs.keeps {A : Nat → Prop} {w w' : World} (h : Tabs w) (hk : Keeps A w w') (h3 : ¬ A (Tryz.laysValid_ren.g 3)) (h4 : ¬ A (Tryz.laysValid_ren.g 4)) : Tabs w' :=
  ⟨fun c hc => hk.cell h3 (h.1 c hc), fun i hi => ⟨hk.cell h4 (h.2 i hi).1, hk.cell h4 (h.2 i hi).2⟩⟩
theorem tabX_ok : XOK TabX where
  step := fun ⟨h1, h2, h3⟩ hk hA => ⟨h1.keeps hk h2 h3, fun h => (hA _ h).elim h2 (by have := h1.lt; omega), fun h => (hA _ h).elim h3 (by have := h1.lt; omega)⟩
theorem openL_le {l m : List UInt8} (h : openL l = some m) : m.length ≤ l.length := by
  unfold openL at h
  split at h
  · cases h
  · split at h
    · cases h
      rw [List.length_take]; omega
    · cases h
theorem splitL_b (l : List UInt8) : (splitL l).1.length ≤ l.length := by
  unfold splitL
  split
  · exact Nat.zero_le _
  · split
    · exact Nat.zero_le _
    · split
      · exact Nat.zero_le _
      · split
        · exact Nat.zero_le _
        · rename_i m h
          have := openL_le h
          dsimp only
          rw [List.length_take, List.length_drop] at this
          omega
theorem pieces_b : ∀ (f : Nat) (l : List UInt8) (p : Nat × List UInt8), p ∈ piecesL f l → p.2.length ≤ l.length
  | 0, l, p, h => by cases h
  | f + 1, l, p, h => by
    unfold piecesL at h
    have hb := splitL_b l
    split at h
    · cases h
    · split at h
      · rw [List.mem_singleton.1 h]; exact hb
      · rcases List.mem_cons.1 h with h | h
        · rw [h]; exact hb
        · have := pieces_b f _ p h
          rw [List.length_drop] at this
          omega
theorem framesOf_b : ∀ (P : List (Nat × List UInt8)) (s : Nat) (p : Nat × List UInt8), p ∈ framesOf s P → ∃ q ∈ P, q.2 = p.2
  | [], s, p, h => by cases h
  | (n, b) :: P, s, p, h => by
    unfold framesOf at h
    split at h
    · cases h
    · rcases List.mem_cons.1 h with h | h
      · exact ⟨(n, b), List.mem_cons_self .., by rw [h]⟩
      · obtain ⟨q, h1, h2⟩ := framesOf_b P _ p h
        exact ⟨q, List.mem_cons_of_mem _ h1, h2⟩
theorem frames_b (l : List UInt8) (p : Nat × List UInt8) (h : p ∈ framesL l) : p.2.length ≤ l.length := by
  obtain ⟨q, h1, h2⟩ := framesOf_b _ _ _ h
  rw [← h2]
  exact pieces_b _ _ _ h1
theorem iter_all (kb : Nat) (v : Value) (l : List UInt8) (hl : l.length ≤ 1099511627776) :
    IterR Fence.wide 8 Tryz.prog 51 #[.pointer (some ⟨kb, 0, none⟩)] (allL l) SaidV TabX (listR [cellsR kb 30 [v], readR v l]) (listR [cellsR kb 30 [v], readR v l]) := by
  intro ll R Rx W A h0 hx0 hround
  have hm1 := (Mem.ofSep h0).unlist
  simp only [List.cons_append, List.nil_append] at hm1
  obtain ⟨a, c, rfl⟩ := (hm1.pick (.there .here)).fact fun A hA => readR.len hA
  have HM := Lib.hid hm1
  have HX := Lib.hid hx0
  have HR := Lib.hid hround
  have HLL := Lib.hid hl
  clear h0 hround hm1 hl hx0
  refine callsIn_of_wp_marks Tryz.func51 rfl trivial ?_ rfl
  simp only [Tryz.ntmps51, List.size_toArray, List.length_cons, List.length_nil, Nat.reduceAdd, Nat.reduceSub, Array.replicate_succ, Array.replicate_zero, List.push_toArray, List.append_toArray, List.nil_append, List.cons_append]
  have fM := HM.out.fa
  gi_wp2_with fail
  refine wpIn_scope ?_
  gi_wp2_with fail
  refine wpIn_label ?_
  gi_wp2_with fail
  clear fM
  refine ⟨trivial, callsIn_wide.2 ?_⟩
  refine nxt HM fun w1 M => ?_
  clear HM; have HM := M; clear M
  obtain ⟨A1, hA1⟩ := HM.out.get (r := readR (.slice a l.length c) l) (by with_reducible repeat first | exact ph | apply pt)
  refine (frames_any w1 a c l hA1.1 HLL.out).mono ?_
  rintro e w2 ⟨k5, v5, rfl, F2, u1, u2, u3⟩
  have hm2 := (HM.out.new (r := listR [cellsR k5 30 [v5], bytR v5 l]) (G := F2) u2 u1 (fun k hk => (u3 k hk).elim (fun h => (noB _ h).elim) id)).unlist
  simp only [List.cons_append, List.nil_append] at hm2
  replace HM := Lib.hid ((hm2.pick (r := bytR v5 l) (by with_reducible repeat first | exact ph | apply pt)).turn (r' := readR v5 l) fun A h => ⟨bytR.bytes h, bytR.lt h⟩)
  clear hA1 u1 u2 u3 hm2
  clear F2 A1
  gi_wp2_with fail
  obtain ⟨k2, hk2⟩ : ∃ k, W.heap.size = k := ⟨_, rfl⟩
  rw [hk2] at HM ⊢
  clear hk2
  obtain ⟨P, hP⟩ : ∃ P, framesL l = P := ⟨_, rfl⟩
  have hFL : allL l = allOf P := by rw [← hP]; rfl
  have HP := Lib.hid hP
  have HFL := Lib.hid hFL
  clear hP hFL
  obtain ⟨R1, hR1⟩ : ∃ R1 : Nat → Res, R1 = fun k => condR (okP P k) (listR [cellsR k2 106 [.func (.yield ll) #[] #[]], cellsR kb 30 [.slice a l.length c], R k]) := ⟨_, rfl⟩
  obtain ⟨R2, hR2⟩ : ∃ R2 : Nat → Res, R2 = fun k => listR [cellsR kb 30 [.slice a l.length c], endR R Rx (allL l).length] := ⟨_, rfl⟩
  have h1 := Mem.list' (L1 := [cellsR k2 106 [.func (.yield ll) #[] #[]], cellsR kb 30 [.slice a l.length c], R 0]) (L := [readR (.slice a l.length c) l, cellsR k5 30 [v5], readR v5 l]) (Mem.sub HM.out (by repeat first | exact Sub.nil | refine Sub.cons (by with_reducible repeat first | exact ph | apply pt) ?_))
  have h2 := h1.turn (r' := R1 0) fun A h => by rw [hR1]; exact ⟨fun i hi => by omega, h⟩
  have h3 := Mem.list' (L1 := [cellsR k5 30 [v5], readR v5 l]) (L := [R1 0, readR (.slice a l.length c) l]) (Mem.sub h2 (by repeat first | exact Sub.nil | refine Sub.cons (by with_reducible repeat first | exact ph | apply pt) ?_))
  obtain ⟨C, hC, hCI, hS⟩ := Mem.stepN (L1 := [listR [cellsR k5 30 [v5], readR v5 l], R1 0]) (L := [readR (.slice a l.length c) l]) h3
  have HS := Lib.hid hS
  have HE2 := Lib.hid hCI
  have HR1 := Lib.hid hR1
  have HR2 := Lib.hid hR2
  clear h1 h2 h3 HM hS hR1 hR2 hCI
  have hfr := (iter_frames k5 v5 l HLL.out).wide (m := 7)
  rw [HP.out] at hfr
  refine wpIn_rangeR_break rfl (by omega) (gf := 82) (lb := #[.pointer (some ⟨k5, 0, none⟩)]) rfl trivial (enters_of Tryz.func82 (by kernel_rfl) rfl) pieceV_ok noX_ok hfr (by rintro x v F W ⟨y, B, rfl, -⟩; rfl) R1 R2 hC trivial ?_ ?_
  · clear hC hfr
    intro k hk v F0 W2 _ hR hv hlt
    obtain ⟨x, B, rfl, -⟩ := hv
    gi_wp2_with fail
    refine ⟨R1 k, ⟨F0, hR, Keeps.refl _ _, fun _ h => .inl h⟩, fun F1 W3 hK3 hR3 hv3 hlt3 => ?_⟩
    have HIN := Lib.hid (HE2.out.trans hK3)
    have HT := Lib.hid (HX.out.1.keeps (HE2.out.trans hK3).1 HX.out.2.1 HX.out.2.2)
    clear hR hK3
    have hpk : P[k]? = some P[k] := List.getElem?_eq_getElem hk
    have hml : P[k].2.length ≤ 1099511627776 := Nat.le_trans (frames_b l _ (by rw [HP.out]; exact List.getElem_mem hk)) HLL.out
    obtain ⟨⟨n, m⟩, hp⟩ : ∃ p, P[k] = p := ⟨_, rfl⟩
    rw [hp] at hv3 hpk hml ⊢
    dsimp only at hv3 hml ⊢
    obtain ⟨x', B, hx, hb, hB⟩ := hv3
    obtain rfl : x = x' := by simpa using hx
    rw [HR1.out] at hR3
    obtain ⟨hnz, hR3⟩ := hR3
    have hm := (Mem.start hR3).unlist
    simp only [List.cons_append, List.nil_append] at hm
    have HM := Lib.hid hm
    have HB := Lib.hid hb
    have HML := Lib.hid hml
    have HNZ := Lib.hid hnz
    have HPK := Lib.hid hpk
    clear hm hb hB hnz hpk hR3 hx hp hml
    have fM := HM.out.fa
    gi_wp2_with fail
    clear fM
    refine ⟨trivial, calls_inRound ?_⟩
    refine (parse_any W3 W3 HT.out (Keeps.refl _ _) x m HB.out (Nat.le_trans HML.out (by decide))).mono ?_
    rintro e W4 ⟨rfl, hE⟩
    replace HM := Lib.hid (HM.out.ext hE)
    clear hE
    by_cases hno : (parseL m).2 = 0
    case neg =>
      have hlen := all_stop P k _ HNZ.out HPK.out hno
      rw [← HFL.out] at hlen
      have HLN := Lib.hid hlen
      obtain ⟨⟨s, no⟩, hs⟩ : ∃ s, parseL m = s := ⟨_, rfl⟩
      rw [hs] at hno ⊢
      dsimp only at hno ⊢
      have d1 : (no != 0) = true := by simpa using hno
      clear hlen hs hno
      unfold Sd.v Sd.cells
      have fM := HM.out.fa
      gi_wp2_with fail
      refine ⟨fun f h => (by cases h), ?_⟩
      gi_wp2_with fail
      clear fM
      show Upd F1 W3 _ (condR _ (R2 (k + 1)))
      refine nxt HM fun W9 M => ?_
      clear HM; have HM := M; clear M
      rw [HR2.out]
      have g1 := (HM.out.pick (r := R k) (by with_reducible repeat first | exact ph | apply pt)).turn (r' := endR R Rx (allL l).length) fun A h => ⟨⟨R k, .inl (by rw [HLN.out])⟩, h⟩
      have g2 := Mem.list' (L1 := [cellsR kb 30 [.slice a l.length c], endR R Rx (allL l).length]) (L := []) (Mem.sub g1 (by repeat first | exact Sub.nil | refine Sub.cons (by with_reducible repeat first | exact ph | apply pt) ?_))
      exact (g2.turn (r' := condR (Code.exit 0 = Code.exit 0) (listR [cellsR kb 30 [.slice a l.length c], endR R Rx (allL l).length])) fun A h => ⟨rfl, h⟩).upd
    have hg := all_get P k _ (okP_succ HNZ.out HPK.out hno) HPK.out
    rw [← HFL.out] at hg
    have HOK := Lib.hid (okP_succ HNZ.out HPK.out hno)
    obtain ⟨⟨s, no⟩, hs⟩ : ∃ s, parseL m = s := ⟨_, rfl⟩
    rw [hs] at hno hg ⊢
    dsimp only at hno hg ⊢
    subst hno
    obtain ⟨hkl, hge⟩ := List.getElem?_eq_some_iff.1 hg
    have HKL := Lib.hid hkl
    have hm5 := HM.out.to (w' := W4.alloc (Obj.cells #[.int .i64 s.kind, .int .i64 s.member, .int .i64 s.number, .int .i64 s.index, .bool s.is, .string (bs s.text), .string (bs s.token), .int .i64 s.e.kind, .int .i64 s.e.member, .int .i64 s.e.number, .string (bs s.e.text)] 27))
    obtain ⟨W5, hW5⟩ : ∃ W5, W4.alloc (Obj.cells #[.int .i64 s.kind, .int .i64 s.member, .int .i64 s.number, .int .i64 s.index, .bool s.is, .string (bs s.text), .string (bs s.token), .int .i64 s.e.kind, .int .i64 s.e.member, .int .i64 s.e.number, .string (bs s.e.text)] 27) = W5 := ⟨_, rfl⟩
    rw [hW5] at hm5
    obtain ⟨F2, hF2, hF2i, hS2⟩ := (hm5.pick (r := R k) (by with_reducible repeat first | exact ph | apply pt)).stepIn
    obtain ⟨fn, tmps, assign, body, hy, hRd⟩ := HR.out k hkl #[.int .i64 (n : Int), s.v] W5 F2 (HIN.out.trans hF2i) hF2 (by rw [hge]; rfl)
    rw [← hW5] at hy
    unfold Sd.v Sd.cells at hy
    have HRd := Lib.hid hRd
    have HSS := Lib.hid hS2
    have HW5 := Lib.hid hW5
    clear hRd hS2 hF2i hF2 hge hm5 hg hW5 hs
    unfold Sd.v Sd.cells
    have fM := HM.out.fa
    gi_wp2_with fail
    clear fM
    rw [HW5.out]
    refine (roundIn_any HRd.out).mono ?_
    rintro e W6 (⟨rfl, hU⟩ | ⟨rfl, hU⟩)
    · replace HM := Lib.hid (HSS.out _ _ hU)
      clear hU HSS hy HRd
      gi_wp2_with fail
      show Upd F1 W3 _ (R1 (k + 1))
      refine nxt HM fun W9 M => ?_
      clear HM; have HM := M; clear M
      rw [HR1.out]
      have g2 := Mem.list' (L1 := [cellsR k2 106 [.func (.yield ll) #[] #[]], cellsR kb 30 [.slice a l.length c], R (k + 1)]) (L := []) (Mem.sub HM.out (by repeat first | exact Sub.nil | refine Sub.cons (by with_reducible repeat first | exact ph | apply pt) ?_))
      exact (g2.turn (r' := condR (okP P (k + 1)) (listR [cellsR k2 106 [.func (.yield ll) #[] #[]], cellsR kb 30 [.slice a l.length c], R (k + 1)])) fun A h => ⟨HOK.out, h⟩).upd
    · replace HM := Lib.hid (HSS.out _ _ hU)
      clear hU HSS hy HRd
      gi_wp2_with fail
      show Upd F1 W3 _ (condR _ (R2 (k + 1)))
      refine nxt HM fun W9 M => ?_
      clear HM; have HM := M; clear M
      rw [HR2.out]
      have g1 := (HM.out.pick (r := Rx (k + 1)) (by with_reducible repeat first | exact ph | apply pt)).turn (r' := endR R Rx (allL l).length) fun A h => ⟨⟨Rx (k + 1), .inr ⟨k, HKL.out, rfl⟩⟩, h⟩
      have g2 := Mem.list' (L1 := [cellsR kb 30 [.slice a l.length c], endR R Rx (allL l).length]) (L := []) (Mem.sub g1 (by repeat first | exact Sub.nil | refine Sub.cons (by with_reducible repeat first | exact ph | apply pt) ?_))
      exact (g2.turn (r' := condR (Code.exit 0 = Code.exit 0) (listR [cellsR kb 30 [.slice a l.length c], endR R Rx (allL l).length])) fun A h => ⟨rfl, h⟩).upd
  · clear hC hfr
    intro W3 r hr hU
    have hm := (HS.out _ _ hU).unall
    simp only [List.cons_append, List.nil_append] at hm
    have hm2 : Mem A W W3 [markR w2.heap.size, listR [cellsR kb 30 [.slice a l.length c], readR (.slice a l.length c) l], endR R Rx (allL l).length] := by
      rcases hr with rfl | ⟨k, hk, rfl⟩
      · have h1 := hm.pick (r := R1 P.length) (by with_reducible repeat first | exact ph | apply pt)
        rw [HR1.out] at h1
        have hz := h1.fact fun A h => h.1
        have h2 := (h1.turn (r' := listR [cellsR k2 106 [.func (.yield ll) #[] #[]], cellsR kb 30 [.slice a l.length c], R P.length]) fun A h => h.2).unlist
        simp only [List.cons_append, List.nil_append] at h2
        have h3 := (h2.pick (r := R P.length) (by with_reducible repeat first | exact ph | apply pt)).turn (r' := endR R Rx (allL l).length) fun A h => ⟨⟨R P.length, .inl (by rw [HFL.out, all_len P hz])⟩, h⟩
        have h4 := Mem.list' (L1 := [cellsR kb 30 [.slice a l.length c], readR (.slice a l.length c) l]) (L := [endR R Rx (allL l).length, markR w2.heap.size]) (Mem.sub h3 (by repeat first | exact Sub.nil | refine Sub.cons (by with_reducible repeat first | exact ph | apply pt) ?_))
        exact Mem.sub h4 (by repeat first | exact Sub.nil | refine Sub.cons (by with_reducible repeat first | exact ph | apply pt) ?_)
      · have h1 := hm.pick (r := R2 (k + 1)) (by with_reducible repeat first | exact ph | apply pt)
        rw [HR2.out] at h1
        have h2 := h1.unlist
        simp only [List.cons_append, List.nil_append] at h2
        have h4 := Mem.list' (L1 := [cellsR kb 30 [.slice a l.length c], readR (.slice a l.length c) l]) (L := [endR R Rx (allL l).length, markR w2.heap.size]) (Mem.sub h2 (by repeat first | exact Sub.nil | refine Sub.cons (by with_reducible repeat first | exact ph | apply pt) ?_))
        exact Mem.sub h4 (by repeat first | exact Sub.nil | refine Sub.cons (by with_reducible repeat first | exact ph | apply pt) ?_)
    have HM := Lib.hid hm2
    clear hm hm2 hr hU
    gi_wp2_with fail
    rw [Exit.noGoto_normal]
    refine leaves_marks [w2.heap.size] _ (by simp) HM.out.mark ?_
    intro w' hk
    have hm := HM.out.unmark hk
    obtain ⟨⟨r, hr⟩, h1⟩ := Mem.unsome (hm.pick (r := endR R Rx (allL l).length) (by with_reducible repeat first | exact ph | apply pt))
    exact ⟨.tuple #[], results_none rfl _ _ _, ⟨_, rfl⟩, r, hr, (Mem.sub (L' := [listR [cellsR kb 30 [.slice a l.length c], readR (.slice a l.length c) l], r]) h1 (by repeat first | exact Sub.nil | refine Sub.cons (by with_reducible repeat first | exact ph | apply pt) ?_)).updAll⟩
end Go.Proofs.YtcfgnbbiljohjaaGreatDoor
end
