/- Texts RangeR, IterS, IterF, IterA, Read, BackL, one behind the other. Conditions: as each says. -/
import Derived.Test.YtoadjbgpfihoiaaGreatDoorRaO
set_option linter.unusedVariables false
set_option linter.unusedSimpArgs false
set_option maxHeartbeats 8000000
set_option maxRecDepth 100000
namespace Go.Proofs.YtoadjbgpfihoiaaGreatDoor
open Go.RowKit
section
instance gl10 (F : Fence) (n : Nat) (P : Program) (c : Code) (Q : Exit → Act → World → Prop) (a : Act) (w : World) : Gl (c.wpIn F n P Q a w) (fun w => c.wpIn F n P Q a w) w := ⟨id⟩
instance gl11 (F : Fence) (n : Nat) (P : Program) (fn : Func) (R : Ending → World → Prop) (e : Exit) (a : Act) (w : World) : Gl (bodyPostM F n P fn R e a w) (fun w => bodyPostM F n P fn R e a w) w := ⟨id⟩
def markR (D : Nat) : Res := anyR (fun F w => (∀ k, F k ↔ k = D) ∧ Mark w D) (fun h hk hs => ⟨h.1, h.2.keeps hk (hs D ((h.1 D).2 rfl))⟩) (fun h k hk => by rw [(h.1 k).1 hk]; exact h.2.lt)
def recR (L : Nat) (o : Loop) : Res := anyR (fun F w => (∀ k, F k ↔ k = L) ∧ w.heap[L]? = some (.loop o)) (fun h hk hs => ⟨h.1, (hk.block L (Array.getElem?_eq_some_iff.1 h.2).1 (hs L ((h.1 L).2 rfl))).trans h.2⟩)
 (fun h k hk => by rw [(h.1 k).1 hk]; exact (Array.getElem?_eq_some_iff.1 h.2).1)
def allR (L : List Res) : Res := anyR (fun F w => SepL L F w) (fun h hk hs => h.keeps hk hs) (fun h => h.lt)
def someR {α : Type} (R : α → Res) : Res := anyR (fun F w => ∃ c, (R c).p F w) (fun ⟨c, h⟩ hk hs => ⟨c, Res.keeps _ h hk hs⟩) (fun ⟨c, h⟩ => Res.lt _ h)
structure RvOK {α : Type} (Rv : α → Array Value → (Nat → Prop) → World → Prop) : Prop where
 step : ∀ {x v F G w w'}, Rv x v F w → Keeps F w w' → (∀ k, G k → F k ∨ w.heap.size ≤ k) → Rv x v G w'
def In (A : Nat → Prop) (W : World) (F : Nat → Prop) (w : World) : Prop := Keeps A W w ∧ ∀ j, F j → A j ∨ W.heap.size ≤ j
theorem In.trans {A C F : Nat → Prop} {W w2 w3 : World} (h : In A W C w2) (k : In C w2 F w3) : In A W F w3 :=
 ⟨h.1.then k.1 fun i hi hC => (h.2 i hC).elim id fun g => absurd g (by omega), fun j hj => (k.2 j hj).elim (h.2 j) fun g => .inr (Nat.le_trans h.1.size g)⟩
structure XOK (X : (Nat → Prop) → World → Prop) : Prop where
 step : ∀ {A A' w w'}, X A w → Keeps A w w' → (∀ k, A' k → A k ∨ w.heap.size ≤ k) → X A' w'
def NoX : (Nat → Prop) → World → Prop := fun _ _ => True
theorem noX_ok : XOK NoX := ⟨fun _ _ _ => trivial⟩
def IterR {α : Type} (F : Fence) (n : Nat) (P : Program) (gf : Nat) (lb : Array Value) (xs : List α) (Rv : α → Array Value → (Nat → Prop) → World → Prop) (X : (Nat → Prop) → World → Prop) (Q Q' : Res) : Prop :=
 ∀ (l : Nat) (R Rx : Nat → Res) (W : World) (A : Nat → Prop), SepL [Q, R 0] A W → X A W →
   (∀ k (hk : k < xs.length) v W1 F1, In A W F1 W1 → (R k).p F1 W1 → Rv xs[k] v F1 W1 → YieldAt F (n - 1) P l v W1 fun e W' =>
    (e = .returned (.bool true) ∧ Upd F1 W1 W' (R (k + 1))) ∨ (e = .returned (.bool false) ∧ Upd F1 W1 W' (Rx (k + 1)))) →
   CallsIn F n P gf (#[.func (.yield l) #[] #[]] ++ lb) W fun e W' => (∃ v, e = .returned v) ∧ ∃ r : Res, (r = R xs.length ∨ ∃ k, k < xs.length ∧ r = Rx (k + 1)) ∧ Upd A W W' (allR [Q', r])
def roundEndR (F1 : Nat → Prop) (W : World) (R : Nat → Res) (Rx : Code → Nat → Res) (k : Nat) : Exit → Act → World → Prop
 | .normal, _, W' => Upd F1 W W' (R k)
 | .ret, _, W' => Upd F1 W W' (Rx .ret k)
 | .exit id, _, W' => Upd F1 W W' (Rx (.exit id) k)
 | .goto t, _, W' => Upd F1 W W' (Rx (.goto t) k)
 | .panic _, _, _ => False
 | .outgrown, _, _ => False
theorem Res.congr (r : Res) {F G : Nat → Prop} {w : World} (h : r.p F w) (hg : ∀ k, G k ↔ F k) : r.p G w := by
 have : G = F := funext fun k => propext (hg k)
 rw [this]; exact h
section
variable {F : Fence} {n : Nat} {P : Program}
theorem wpIn_rangeR {α : Type} {g : Operand} {ps : Array Tmp} {assign body : Code} {K : Exit → Act → World → Prop} {a : Act} {w : World} {A : Nat → Prop}
 (hro : F.round = none) (h1 : 1 ≤ n) {gf : Nat} {lb : Array Value} (hg : a.eval g = .func (.func gf) #[] lb) (hFg : F.fn gf) (eg : ∀ args w, (callFunc gf args).run P w = .ok (.enter gf args) w)
 {xs : List α} {Rv : α → Array Value → (Nat → Prop) → World → Prop} (hrv : RvOK Rv) {X : (Nat → Prop) → World → Prop} (hxo : XOK X) {Q Q' : Res} (hiter : IterR F (n - 1) P gf lb xs Rv X Q Q') (hps : ∀ x v F W, Rv x v F W → v.size = ps.size)
 (R : Nat → Res) (Rx : Code → Nat → Res) (h0 : SepL [Q, R 0] A w) (hx0 : X A w)
 (hround : ∀ k (hk : k < xs.length) v F1 W, In A w F1 W → (R k).p F1 W → Rv xs[k] v F1 W → w.heap.size + 1 < W.heap.size →
  assign.wpIn (F.inRound (w.heap.size + 1)) (n - 1 - 1) P (Exit.then (fun a' W' => ∃ r2 : Res, Upd F1 W W' r2 ∧
   ∀ F2 W2, In A w F2 W2 → r2.p F2 W2 → Rv xs[k] v F2 W2 → w.heap.size + 1 < W2.heap.size → body.wpIn (F.inRound (w.heap.size + 1)) (n - 1 - 1) P (roundEndR F2 W2 R Rx (k + 1)) a' W2) (fun _ _ _ => False))
   { tmps := (ps.zip v).foldl (fun t (p, v) => t.setIfInBounds p v) a.tmps, defers := [] } W)
 (hdone : ∀ W, Upd A w W (allR [Q', R xs.length, markR w.heap.size]) → K .normal { a with defers := markOf w.heap.size :: a.defers } W)
 (hstop : ∀ c k W, k < xs.length → Upd A w W (allR [Q', Rx c (k + 1), markR w.heap.size]) → c.wpIn F n P K { a with defers := markOf w.heap.size :: a.defers } W) :
 (Code.rangeFunc g ps assign body).wpIn F n P K a w := by
 refine wpIn_rangeFunc ?_
 intro fn hfn
 rw [hro]
 obtain ⟨rec, hrec⟩ : ∃ rec : LoopState → Option Code → Loop, rec = fun st pe => { state := st, pending := pe, fn, tmps := a.tmps, params := ps, assign, body, defers := w.heap.size } := ⟨_, rfl⟩
 obtain ⟨W1, hW1⟩ : ∃ W1, (w.alloc (.deferred (some []))).alloc (.loop (rec .ready none)) = W1 := ⟨_, rfl⟩
 obtain ⟨D, hD⟩ : ∃ D, w.heap.size = D := ⟨_, rfl⟩
 obtain ⟨L, hL⟩ : ∃ L, w.heap.size + 1 = L := ⟨_, rfl⟩
 have hLD : L = D + 1 := by omega
 have hL1 : W1.heap[L]? = some (.loop (rec .ready none)) := by
  rw [← hW1, ← hL]; have := World.alloc_heap_new (w.alloc (.deferred (some []))) (.loop (rec .ready none)); rwa [World.size_alloc] at this
 have hK1 : Mark W1 D := by
  rw [← hW1, ← hD]; exact (Below.heap_alloc _ _ _ (by simp)).trans (World.alloc_heap_new w _)
 have hE1 : Ext w W1 := by rw [← hW1]; exact ((Keeps.refl _ w).alloc _).alloc _
 have put1 : ∀ (W : World) (o : Obj), Keeps (OneB L) W (W.putObj L o) := fun W o => (Keeps.refl _ W).putObj _ o (.inl rfl)
 have hAlt : ∀ k, A k → k < w.heap.size := h0.lt
 -- the things of the loop within
 obtain ⟨R1, hR1⟩ : ∃ R1 : Nat → Res, R1 = fun k => allR [R k, markR D, recR L (rec .ready none)] := ⟨_, rfl⟩
 obtain ⟨R2, hR2⟩ : ∃ R2 : Nat → Res, R2 = fun k => someR fun c => allR [Rx c k, markR D, recR L (rec .done (some c))] := ⟨_, rfl⟩
 have h0' : SepL [Q, R1 0] (fun k => A k ∨ k = D ∨ k = L) W1 := by
  obtain ⟨B, C, b1, ⟨B2, C2, b5, b6, b7, b8⟩, b3, b4⟩ := h0
  have hB2 : ∀ k, B2 k → k < w.heap.size := Res.lt _ b5
  have hBl : ∀ k, B k → k < w.heap.size := Res.lt _ b1
  refine ⟨B, fun k => C k ∨ k = D ∨ k = L, Res.keeps _ b1 hE1 (fun _ _ => noB _), ⟨fun k => C k ∨ k = D ∨ k = L, fun _ => False, ?_, fun k h => h, fun _ _ h => h, fun k => by simp⟩, fun k hB hC => ?_, fun k => ?_⟩
  · rw [hR1]
    refine ⟨C, fun k => k = D ∨ k = L, Res.congr _ (Res.keeps _ b5 hE1 (fun _ _ => noB _)) (fun k => by rw [b8]; exact ⟨fun h => h.resolve_right (b6 k), .inl⟩), ⟨fun k => k = D, fun k => k = L, ⟨fun k => Iff.rfl, hK1⟩, ⟨fun k => k = L, fun _ => False, ⟨fun k => Iff.rfl, hL1⟩, fun k h => h, fun _ _ h => h, fun k => by simp⟩, fun k h h' => by omega, fun k => Iff.rfl⟩, fun k hC h => ?_, fun k => by simp⟩
    have hC' : B2 k := ((b8 k).1 hC).resolve_right (b6 k)
    have := hB2 k hC'
    omega
  · rcases hC with hC | hC | hC
    · exact b3 k hB hC
    · have := hBl k hB; omega
    · have := hBl k hB; omega
  · show (A k ∨ k = D ∨ k = L) ↔ B k ∨ (C k ∨ k = D ∨ k = L)
    rw [b4]; constructor
    · rintro ((h | h) | h)
      · exact .inl h
      · exact .inr (.inl h)
      · exact .inr (.inr h)
    · rintro (h | h | h)
      · exact .inl (.inl h)
      · exact .inl (.inr h)
      · exact .inr h
 have hA1 : ∀ k, (A k ∨ k = D ∨ k = L) → A k ∨ w.heap.size ≤ k := fun k h => by
  rcases h with h | h | h
  · exact .inl h
  · exact .inr (by omega)
  · exact .inr (by omega)
 -- what ends a loop
 have fin : ∀ {o : Loop} {r : Res} {W2 : World}, Upd (fun k => A k ∨ k = D ∨ k = L) W1 W2 (allR [Q', allR [r, markR D, recR L o]]) → W2.heap[L]? = some (.loop o) ∧ ∀ o' : Obj, Upd A w (W2.putObj L o') (allR [Q', r, markR D]) := fun {o r W2} hU => by
  obtain ⟨G, hs, hk, hg⟩ := hU
  obtain ⟨B, C, b1, ⟨B2, C2, b5, b6, b7, b8⟩, b3, b4⟩ := hs
  obtain ⟨E1, E2, e1, ⟨E3, E4, e3, ⟨E5, E6, e5, e6, e7, e8⟩, e9, e10⟩, e11, e12⟩ := b5
  have hL5 : ∀ k, E5 k ↔ k = L := e5.1
  have hD3 : ∀ k, E3 k ↔ k = D := e3.1
  have hl : W2.heap[L]? = some (.loop o) := e5.2
  have hLE1 : ¬ E1 L := fun h => e11 L h ((e10 L).2 (.inr ((e8 L).2 (.inl ((hL5 L).2 rfl)))))
  have hLB2 : B2 L := (e12 L).2 (.inr ((e10 L).2 (.inr ((e8 L).2 (.inl ((hL5 L).2 rfl))))))
  have hLB : ¬ B L := fun h => b3 L h ((b8 L).2 (.inl hLB2))
  have hDE1 : ¬ E1 D := fun h => e11 D h ((e10 D).2 (.inl ((hD3 D).2 rfl)))
  have hDB2 : B2 D := (e12 D).2 (.inr ((e10 D).2 (.inl ((hD3 D).2 rfl))))
  have hDB : ¬ B D := fun h => b3 D h ((b8 D).2 (.inl hDB2))
  refine ⟨hl, fun o' => ?_⟩
  have hp := put1 W2 o'
  refine ⟨fun k => B k ∨ E1 k ∨ k = D, ⟨B, fun k => E1 k ∨ k = D, Res.keeps _ b1 hp (fun k hB h => by rw [show k = L from h] at hB; exact hLB hB), ⟨E1, fun k => k = D, Res.keeps _ e1 hp (fun k hB h => by rw [show k = L from h] at hB; exact hLE1 hB), ⟨fun k => k = D, fun _ => False, ⟨fun k => Iff.rfl, e3.2.keeps hp (by unfold OneB; omega)⟩, fun k h => h, fun _ _ h => h, fun k => by simp⟩, fun k h h' => by rw [h'] at h; exact hDE1 h, fun k => Iff.rfl⟩, fun k h h' => ?_, fun k => Iff.rfl⟩, ?_, fun k hk2 => ?_⟩
  · rcases h' with h' | h'
    · exact b3 k h ((b8 k).2 (.inl ((e12 k).2 (.inl h'))))
    · rw [h'] at h; exact hDB h
  · have h3 : Keeps A w W2 := (Ext.keeps hE1).then (hk.mono (T := fun k => A k ∨ k = D ∨ k = L) fun _ _ h => h) fun i hi h => by
     rcases h with h | h | h
     · exact h
     · omega
     · omega
    exact h3.then hp fun i hi h => by
     have : i = L := h
     omega
  · have : G k := (b4 k).2 (by
     rcases hk2 with h | h | h
     · exact .inl h
     · exact .inr ((b8 k).2 (.inl ((e12 k).2 (.inl h))))
     · exact .inr ((b8 k).2 (.inl (by rw [h]; exact hDB2))))
    rcases hg k this with h | h
    · exact hA1 k h
    · have := hE1.size; exact .inr (by omega)
 refine ⟨L, [markOf D], W1, { target := .fn (.func gf) lb, args := #[.func (.yield L) #[] #[]] }, W1, gf,
  #[.func (.yield L) #[] #[]] ++ lb, W1, ?_, ?_, ?_, ?_, fun _ => h1, ?_⟩
 · rw [← hW1, hrec, ← hL, ← hD]; exact run_enterLoop_outer _ _ _ _ _
 · simp only [resolve, hg]
   simp [go_sem]
 · intro f' hf'; simp [Target.leads] at hf'; subst hf'; exact hFg
 · simp [invoke, go_sem, eg]
 · refine (hiter L R1 R2 W1 _ h0' (hxo.step hx0 (Ext.keeps hE1) hA1) ?_).mono ?_
   · intro k hk v W F1 ⟨hK0, hF0⟩ hR hv
     rw [hR1] at hR
     obtain ⟨B2, C2, b5, ⟨E3, E4, e3, ⟨E5, E6, e5, e6, e7, e8⟩, e9, e10⟩, b7, b8⟩ := hR
     have hL5 : ∀ k, E5 k ↔ k = L := e5.1
     have hD3 : ∀ k, E3 k ↔ k = D := e3.1
     have hl : W.heap[L]? = some (.loop (rec .ready none)) := e5.2
     have hm : Mark W D := e3.2
     have hE4L : E4 L := (e8 L).2 (.inl ((hL5 L).2 rfl))
     have hC2 : ∀ k, C2 k ↔ k = D ∨ k = L := fun k => by
      rw [e10, hD3, e8, hL5]
      constructor
      · rintro (h | h | h)
        · exact .inl h
        · exact .inr h
        · exact (e6 k h).elim
      · rintro (h | h)
        · exact .inl h
        · exact .inr (.inl h)
     have hLB : ¬ B2 L := fun h => b7 L h ((hC2 L).2 (.inr rfl))
     have hDB : ¬ B2 D := fun h => b7 D h ((hC2 D).2 (.inl rfl))
     have hlt : L < W.heap.size := (Array.getElem?_eq_some_iff.1 hl).1
     have hF1 : ∀ k, F1 k ↔ B2 k ∨ k = D ∨ k = L := fun k => by rw [b8, hC2]
     have hlt' : w.heap.size + 1 < W.heap.size := by omega
     have hKW : Keeps A w W := (Ext.keeps hE1).then (hK0.mono (T := fun k => A k ∨ k = D ∨ k = L) fun _ _ h => h) fun i hi h => by
      rcases h with h | h | h
      · exact h
      · omega
      · omega
     have hFW : ∀ j, B2 j → A j ∨ w.heap.size ≤ j := fun j hj => (hF0 j ((hF1 j).2 (.inl hj))).elim (hA1 j) fun h => .inr (by have := hE1.size; omega)
     have hv2 : Rv xs[k] v B2 W := hrv.step hv (Keeps.refl _ _) fun i h => .inl ((hF1 i).2 (.inl h))
     have hy := run_yield (P := P) (args := v) hl (by rw [hrec]; exact hps _ _ _ _ hv)
     rw [hrec] at hy
     refine ⟨fn, _, assign, body, hy, roundIn_of_wpIn hfn (wpIn_mono (by rw [← hL]; exact hround k hk v B2 W ⟨hKW, hFW⟩ b5 hv2 hlt') ?_)⟩
     rintro e a' Wa hp
     cases e with
     | normal =>
       obtain ⟨r2, ⟨G2, g1, g2, g3⟩, hbody⟩ := hp
       have hLG : ¬ G2 L := fun h => (g3 L h).elim hLB (by omega)
       have hDG : ¬ G2 D := fun h => (g3 D h).elim hDB (by omega)
       have hla : Wa.heap[L]? = some (.loop (rec .ready none)) := (g2.block L hlt hLB).trans hl
       have hma : Mark Wa D := hm.keeps g2 hDB
       have hlta : L < Wa.heap.size := (Array.getElem?_eq_some_iff.1 hla).1
       refine ⟨_, run_beginRound hla (by rw [hrec]), ?_⟩
       obtain ⟨Wb, hWb⟩ : ∃ Wb, Wa.putObj L (.loop { rec .ready none with state := .busy }) = Wb := ⟨_, rfl⟩
       have hkb : Keeps (OneB L) Wa Wb := by rw [← hWb]; exact put1 _ _
       have hl2 : Wb.heap[L]? = some (.loop { rec .ready none with state := .busy }) := by rw [← hWb]; exact World.putObj_heap_same hlta
       have hm2 : Mark Wb D := hma.keeps hkb (by unfold OneB; omega)
       have hR2b : r2.p G2 Wb := Res.keeps _ g1 hkb (fun i h h' => by rw [show i = L from h'] at h; exact hLG h)
       have hk2 : Keeps F1 W Wb := (g2.mono (T := F1) fun i _ h => (hF1 i).2 (.inl h)).then hkb fun i _ h => (hF1 i).2 (.inr (.inr h))
       have hvb : Rv xs[k] v G2 Wb := hrv.step hv hk2 fun i h => (g3 i h).elim (fun h => .inl ((hF1 i).2 (.inl h))) .inr
       have hltb : L < Wb.heap.size := (Array.getElem?_eq_some_iff.1 hl2).1
       have hIn : In A w G2 Wb := ⟨(hKW.then g2 fun i hi h => (hFW i h).elim id fun g => absurd g (by omega)).then hkb fun i hi h => (by have : i = L := h; omega), fun i h => (g3 i h).elim (hFW i) fun g => .inr (Nat.le_trans hKW.size g)⟩
       rw [show Wa.putObj L (.loop { rec .ready none with state := .busy }) = Wb from hWb]
       refine wpIn_mono (by rw [← hL]; exact hbody G2 Wb hIn hR2b hvb (by omega)) ?_
       have finR : ∀ (jump : Option Code) (W3 : World) (r : Res), Upd G2 Wb W3 r →
        (Instr.endRound L jump).run P W3 = .ok (.bool jump.isNone) (W3.putObj L (.loop (rec (if jump.isNone then .ready else .done) jump))) ∧
        Upd F1 W (W3.putObj L (.loop (rec (if jump.isNone then .ready else .done) jump))) (allR [r, markR D, recR L (rec (if jump.isNone then .ready else .done) jump)]) := fun jump W3 r hU => by
        obtain ⟨G, u1, u2, u3⟩ := hU
        have hl3 := (u2.block _ hltb hLG).trans hl2
        have hm3 : Mark W3 D := hm2.keeps u2 hDG
        have hGL : ¬ G L := fun h => (u3 L h).elim hLG (by omega)
        have hGD : ¬ G D := fun h => (u3 D h).elim hDG (by omega)
        have := run_endRound (P := P) jump hl3
        rw [hrec] at this ⊢
        refine ⟨this, fun i => G i ∨ i = D ∨ i = L, ⟨G, fun i => i = D ∨ i = L, Res.keeps _ u1 (put1 _ _) (fun i h h' => by rw [show i = L from h'] at h; exact hGL h), ⟨fun i => i = D, fun i => i = L, ⟨fun i => Iff.rfl, hm3.keeps (put1 _ _) (by unfold OneB; omega)⟩, ⟨fun i => i = L, fun _ => False, ⟨fun i => Iff.rfl, World.putObj_heap_same (Array.getElem?_eq_some_iff.1 hl3).1⟩, fun i h => h, fun _ _ h => h, fun i => by simp⟩, fun i h h' => by omega, fun i => Iff.rfl⟩, fun i h h' => ?_, fun i => Iff.rfl⟩, ?_, fun i h => ?_⟩
        · rcases h' with h' | h'
          · rw [h'] at h; exact hGD h
          · rw [h'] at h; exact hGL h
        · have k2 : Keeps F1 W W3 := hk2.then u2 fun i hi h => (g3 i h).elim (fun h => (hF1 i).2 (.inl h)) fun g => absurd g (by omega)
          exact k2.then (put1 _ _) fun i _ h => (hF1 i).2 (.inr (.inr h))
        · rcases h with h | h
          · rcases u3 i h with h | h
            · rcases g3 i h with h | h
              · exact .inl ((hF1 i).2 (.inl h))
              · exact .inr h
            · have := hk2.size; exact .inr (by omega)
          · exact .inl ((hF1 i).2 (.inr h))
       rintro e a3 W3 hp
       cases e with
       | normal =>
         obtain ⟨hr, hu⟩ := finR none W3 _ hp
         exact ⟨_, _, hr, .inl ⟨rfl, by rw [hR1]; exact hu⟩⟩
       | ret =>
         obtain ⟨hr, G, hu⟩ := finR (some .ret) W3 _ hp
         exact ⟨_, _, hr, .inr ⟨rfl, G, by rw [hR2]; exact ⟨⟨.ret, hu.1⟩, hu.2⟩⟩⟩
       | exit id =>
         obtain ⟨hr, G, hu⟩ := finR (some (.exit id)) W3 _ hp
         exact ⟨_, _, hr, .inr ⟨rfl, G, by rw [hR2]; exact ⟨⟨.exit id, hu.1⟩, hu.2⟩⟩⟩
       | goto t =>
         obtain ⟨hr, G, hu⟩ := finR (some (.goto t)) W3 _ hp
         exact ⟨_, _, hr, .inr ⟨rfl, G, by rw [hR2]; exact ⟨⟨.goto t, hu.1⟩, hu.2⟩⟩⟩
       | panic ch => exact hp.elim
       | outgrown => exact hp.elim
     | ret => exact hp.elim
     | exit id => exact hp.elim
     | goto t => exact hp.elim
     | panic ch => exact hp.elim
     | outgrown => exact hp.elim
   · rintro e W2 ⟨⟨v, rfl⟩, r, (rfl | ⟨k, hk, rfl⟩), hU⟩
     · rw [hR1] at hU
       obtain ⟨hl, hf⟩ := fin hU
       exact ⟨none, _, by have := run_endLoop (P := P) hl (by rw [hrec]; simp); rw [hrec] at this; exact this, by rw [← hD] at hf; rw [← hD]; exact hdone _ (hf _)⟩
     · rw [hR2] at hU
       obtain ⟨G, ⟨B, C, b1, ⟨B2, C2, ⟨c, b5⟩, b6, b7, b8⟩, b3, b4⟩, hu⟩ := hU
       obtain ⟨hl, hf⟩ := fin (o := rec .done (some c)) (r := Rx c (k + 1)) ⟨G, ⟨B, C, b1, ⟨B2, C2, b5, b6, b7, b8⟩, b3, b4⟩, hu⟩
       exact ⟨some c, _, by have := run_endLoop (P := P) hl (by rw [hrec]; simp); rw [hrec] at this; exact this, by rw [← hD] at hf; rw [← hD]; exact hstop c k _ hk (hf _)⟩
end
def condR (φ : Prop) (r : Res) : Res := anyR (fun F w => φ ∧ r.p F w) (fun h hk hs => ⟨h.1, Res.keeps _ h.2 hk hs⟩) (fun h => Res.lt _ h.2)
def roundEndB (F1 : Nat → Prop) (W : World) (id : Nat) (R Rx : Nat → Res) (k : Nat) : Exit → Act → World → Prop := roundEndR F1 W R (fun c k => condR (c = .exit id) (Rx k)) k
section
variable {F : Fence} {n : Nat} {P : Program}
theorem wpIn_rangeR_break {α : Type} {g : Operand} {ps : Array Tmp} {assign body : Code} {K : Exit → Act → World → Prop} {a : Act} {w : World} {A : Nat → Prop} {id : Nat}
 (hro : F.round = none) (h1 : 1 ≤ n) {gf : Nat} {lb : Array Value} (hg : a.eval g = .func (.func gf) #[] lb) (hFg : F.fn gf) (eg : ∀ args w, (callFunc gf args).run P w = .ok (.enter gf args) w)
 {xs : List α} {Rv : α → Array Value → (Nat → Prop) → World → Prop} (hrv : RvOK Rv) {X : (Nat → Prop) → World → Prop} (hxo : XOK X) {Q Q' : Res} (hiter : IterR F (n - 1) P gf lb xs Rv X Q Q') (hps : ∀ x v F W, Rv x v F W → v.size = ps.size)
 (R Rx : Nat → Res) (h0 : SepL [Q, R 0] A w) (hx0 : X A w)
 (hround : ∀ k (hk : k < xs.length) v F1 W, In A w F1 W → (R k).p F1 W → Rv xs[k] v F1 W → w.heap.size + 1 < W.heap.size →
  assign.wpIn (F.inRound (w.heap.size + 1)) (n - 1 - 1) P (Exit.then (fun a' W' => ∃ r2 : Res, Upd F1 W W' r2 ∧
   ∀ F2 W2, In A w F2 W2 → r2.p F2 W2 → Rv xs[k] v F2 W2 → w.heap.size + 1 < W2.heap.size → body.wpIn (F.inRound (w.heap.size + 1)) (n - 1 - 1) P (roundEndB F2 W2 id R Rx (k + 1)) a' W2) (fun _ _ _ => False))
   { tmps := (ps.zip v).foldl (fun t (p, v) => t.setIfInBounds p v) a.tmps, defers := [] } W)
 (hend : ∀ W (r : Res), (r = R xs.length ∨ ∃ k, k < xs.length ∧ r = Rx (k + 1)) → Upd A w W (allR [Q', r, markR w.heap.size]) → Exit.inBlock id K .normal { a with defers := markOf w.heap.size :: a.defers } W) :
 (Code.rangeFunc g ps assign body).wpIn F n P (Exit.inBlock id K) a w :=
 wpIn_rangeR hro h1 hg hFg eg hrv hxo hiter hps R (fun c k => condR (c = .exit id) (Rx k)) h0 hx0 hround
  (fun W hU => hend W _ (.inl rfl) hU)
  (fun c k W hk hU => by
   obtain ⟨G, ⟨B, C, b1, ⟨B2, C2, ⟨rfl, b5⟩, b6, b7, b8⟩, b3, b4⟩, hu⟩ := hU
   refine wpIn_exit ?_
   have := hend W _ (.inr ⟨k, hk, rfl⟩) ⟨G, ⟨B, C, b1, ⟨B2, C2, b5, b6, b7, b8⟩, b3, b4⟩, hu⟩
   simpa [Exit.inBlock] using this)
end
theorem roundIn_any {P : Program} {n m r l : Nat} {f : FuncId} {tmps : Array Value} {assign body : Code} {w : World} {R : Ending → World → Prop} (h : RoundIn Fence.wide n P l f tmps assign body w R) : RoundIn (Fence.wide.inRound r) m P l f tmps assign body w R :=
 ⟨h.1, fun c cs _ => h.2 c cs (room_wide _)⟩
theorem roundIn_wide {P : Program} {n m l : Nat} {f : FuncId} {tmps : Array Value} {assign body : Code} {w : World} {R : Ending → World → Prop} (h : RoundIn Fence.wide n P l f tmps assign body w R) : RoundIn Fence.wide m P l f tmps assign body w R :=
 ⟨h.1, fun c cs _ => h.2 c cs (room_wide _)⟩
theorem Mem.beside {F : Nat → Prop} {w0 w : World} {L L1 L2 : List Res} {r x : Res} (h : Mem F w0 w L) (p : Pick L r L1) (q : Pick L1 x L2) :
 ∃ A B, r.p A w ∧ x.p B w ∧ (∀ k, B k → ¬ A k) ∧ In F w0 A w ∧ ∀ (r' : Res) (w' : World), Upd A w w' r' → Mem F w0 w' (r' :: L1) := by
 obtain ⟨a, G, ⟨A, B, h1, h2, h3, h4⟩, c⟩ := h.pick p
 obtain ⟨C, D, h5, h6, h7, h8⟩ := q.sep h2
 have hA := fun k hk => c k ((h4 k).2 (.inl hk))
 have hB := fun k hk => c k ((h4 k).2 (.inr hk))
 have hlt := h2.lt
 refine ⟨A, C, h1, h5, fun k hC hA => h3 k hA ((h8 k).2 (.inl hC)), ⟨a, hA⟩, fun r' w' ⟨A', u1, u2, u3⟩ => ?_⟩
 refine ⟨a.then u2 fun i hi h => ?_, fun k => A' k ∨ B k, ⟨A', B, u1, h2.keeps u2 fun k hk hA' => h3 k hA' hk, fun k h5 h6 => ?_, fun k => Iff.rfl⟩, fun k hk => ?_⟩
 · rcases hA i h with h | h
   · exact h
   · omega
 · rcases u3 k h5 with h | h
   · exact h3 k h h6
   · have := hlt k h6; omega
 · rcases hk with hk | hk
   · rcases u3 k hk with h | h
     · exact hA k h
     · have := a.size; exact .inr (by omega)
   · exact hB k hk
theorem Mem.ofSep {F : Nat → Prop} {w : World} {L : List Res} (h : SepL L F w) : Mem F w w L := ⟨Keeps.refl _ _, F, h, fun k hk => .inl hk⟩
theorem Mem.updAll {F : Nat → Prop} {w0 w : World} {L : List Res} (h : Mem F w0 w L) : Upd F w0 w (allR L) := let ⟨a, G, b, c⟩ := h; ⟨G, b, a, c⟩
theorem Mem.unall {F : Nat → Prop} {w0 w : World} {L L1 : List Res} (h : Mem F w0 w (allR L1 :: L)) : Mem F w0 w (L1 ++ L) := h.open fun A hA => ⟨A, hA, fun _ h => h⟩
theorem Mem.stepN {F : Nat → Prop} {w0 w : World} {L1 L : List Res} (h : Mem F w0 w (L1 ++ L)) : ∃ A, SepL L1 A w ∧ In F w0 A w ∧ ∀ (r' : Res) (w' : World), Upd A w w' r' → Mem F w0 w' (r' :: L) := by
 have hm := h.close (r := allR L1) fun _ hA => hA
 obtain ⟨A, h1, h2, h3⟩ := hm.step'
 exact ⟨A, h1, ⟨hm.keepsTo, h2⟩, h3⟩
theorem Mem.stepIn {F : Nat → Prop} {w0 w : World} {L : List Res} {r : Res} (h : Mem F w0 w (r :: L)) : ∃ A, r.p A w ∧ In F w0 A w ∧ ∀ (r' : Res) (w' : World), Upd A w w' r' → Mem F w0 w' (r' :: L) := by
 obtain ⟨A, h1, h2, h3⟩ := h.step'
 exact ⟨A, h1, ⟨h.keepsTo, h2⟩, h3⟩
theorem yieldAt_wide {P : Program} {n m l : Nat} {v : Array Value} {w : World} {R : Ending → World → Prop} (h : YieldAt Fence.wide n P l v w R) : YieldAt Fence.wide m P l v w R :=
 let ⟨fn, tmps, assign, body, h1, h2⟩ := h
 ⟨fn, tmps, assign, body, h1, roundIn_wide h2⟩
theorem IterR.wide {α : Type} {P : Program} {n m gf : Nat} {lb : Array Value} {xs : List α} {Rv : α → Array Value → (Nat → Prop) → World → Prop} {X : (Nat → Prop) → World → Prop} {Q Q' : Res} (h : IterR Fence.wide n P gf lb xs Rv X Q Q') : IterR Fence.wide m P gf lb xs Rv X Q Q' :=
 fun l R Rx W A h0 hx hr => callsIn_wide.2 (callsIn_wide.1 (h l R Rx W A h0 hx fun k hk v W1 F1 h1 h2 h3 => yieldAt_wide (hr k hk v W1 F1 h1 h2 h3)))
theorem Mem.unmark {F : Nat → Prop} {w0 w w' : World} {L : List Res} {D : Nat} (h : Mem F w0 w (markR D :: L)) (hk : Keeps (fun b => b ∈ [D]) w w') : Mem F w0 w' L := by
 obtain ⟨a, G, ⟨A, B, h1, h2, h3, h4⟩, c⟩ := h
 have hD : A D := (h1.1 D).2 rfl
 have hk' : Keeps (OneB D) w w' := hk.mono fun k _ h => List.mem_singleton.1 h
 refine ⟨a.then hk' fun i hi h => ?_, B, h2.keeps hk' fun k hB h => ?_, fun k hB => c k ((h4 k).2 (.inr hB))⟩
 · rcases c D ((h4 D).2 (.inl hD)) with h5 | h5
   · rw [show i = D from h]; exact h5
   · have : i = D := h
     omega
 · rw [show k = D from h] at hB; exact h3 D hD hB
theorem Mem.mark {F : Nat → Prop} {w0 w : World} {L : List Res} {D : Nat} (h : Mem F w0 w (markR D :: L)) : ∀ E, E ∈ [D] → Mark w E := fun E hE => by
 obtain ⟨A, hA⟩ := h.get (L' := L) .here
 rw [List.mem_singleton.1 hE]; exact hA.2
theorem SepL.one {r : Res} {A : Nat → Prop} {w : World} (h : r.p A w) : SepL [r] A w := ⟨A, fun _ => False, h, fun _ h => h, fun _ _ h => h, fun k => ⟨.inl, fun h => h.resolve_right id⟩⟩
theorem Mem.unsome {F : Nat → Prop} {w0 w : World} {L : List Res} {α : Type} {R : α → Res} (h : Mem F w0 w (someR R :: L)) : ∃ c, Mem F w0 w (R c :: L) :=
 h.openE (M := fun c => [R c]) fun A hA => let ⟨c, h⟩ := hA; ⟨c, A, SepL.one h, fun _ h => h⟩
end
section

end
section
attribute [local go_sem] Oper.semAt_some
def endR (R Rx : Nat → Res) (n : Nat) : Res := someR fun c : { r : Res // r = R n ∨ ∃ j, j < n ∧ r = Rx (j + 1) } => c.1
end
section
attribute [local go_sem] Oper.semAt_some
def TabX (A : Nat → Prop) (w : World) : Prop := Tabs w ∧ ¬ A (Tryz.laysValid_ren.g 3) ∧ ¬ A (Tryz.laysValid_ren.g 4)
theorem Tabs.lt {w : World} (h : Tabs w) : Tryz.laysValid_ren.g 3 < w.heap.size ∧ Tryz.laysValid_ren.g 4 < w.heap.size :=
 ⟨World.block_lt_of_cell? w ⟨_, 0, none⟩ (h.1 0 (by decide)), World.block_lt_of_cell? w ⟨_, 0, none⟩ (h.2 0 (by decide)).1⟩
theorem Tabs.keeps {A : Nat → Prop} {w w' : World} (h : Tabs w) (hk : Keeps A w w') (h3 : ¬ A (Tryz.laysValid_ren.g 3)) (h4 : ¬ A (Tryz.laysValid_ren.g 4)) : Tabs w' :=
 ⟨fun c hc => hk.cell h3 (h.1 c hc), fun i hi => ⟨hk.cell h4 (h.2 i hi).1, hk.cell h4 (h.2 i hi).2⟩⟩
theorem tabX_ok : XOK TabX where
 step := fun ⟨h1, h2, h3⟩ hk hA => ⟨h1.keeps hk h2 h3, fun h => (hA _ h).elim h2 (by have := h1.lt; omega), fun h => (hA _ h).elim h3 (by have := h1.lt; omega)⟩
theorem openL_le {l m : List UInt8} (h : openL l = some m) : m.length ≤ l.length := by
 unfold openL at h
 split at h
 · cases h
 · split at h
   · cases h
     rw [List.length_take]; omega
   · cases h
theorem splitL_b (l : List UInt8) : (splitL l).1.length ≤ l.length := by
 unfold splitL
 split
 · exact Nat.zero_le _
 · split
   · exact Nat.zero_le _
   · split
     · exact Nat.zero_le _
     · split
       · exact Nat.zero_le _
       · rename_i m h
         have := openL_le h
         dsimp only
         rw [List.length_take, List.length_drop] at this
         omega
end
section
def readL (b : List UInt8) : Sd × Nat × Int :=
 if (splitL b).2.2 ≠ 0 ∨ (splitL b).2.1 = 0 then (Sd.of 0, 0, (splitL b).2.2) else
 if (parseL (splitL b).1).2 ≠ 0 then (Sd.of 0, 0, (parseL (splitL b).1).2) else ((parseL (splitL b).1).1, (splitL b).2.1, 0)
theorem parse_err (b : List UInt8) (h : (parseL b).2 ≠ 0) : (parseL b).1 = Sd.of 0 := by
 unfold parseL at h ⊢
 dsimp only at h ⊢
 split at h
 · exact absurd rfl h
 · rename_i hc
   rw [if_neg hc]
theorem results_ctt {P : Program} {w : World} {fn : Func} {r s u : Nat} {ty : TypeId} {v : Value} {ad : Addr} (hr : fn.results = #[.cell r ty, .tmp s, .tmp u]) (tmps : Array Value) (h0 : tmps.getD r undef = .pointer (some ad)) (hl : (loadVar ty ad).run P w = .ok v w) :
 (results fn tmps).run P w = .ok (.tuple #[v, tmps.getD s undef, tmps.getD u undef]) w := by
 unfold results
 rw [hr]
 simp only [List.mapM_toArray, List.mapM_cons, List.mapM_nil]
 simp [h0, asAddr, hl, Sem.run_bind, Result.andThen]
theorem fread_any {A : Nat → Prop} (W w : World) (hT : Tabs W) (hE : Ext W w) (v : Value) (l : List UInt8) (h : Bytes w A v l) (hA : ∀ k, A k → k < w.heap.size) (hl : l.length ≤ 1099511627776) :
 Calls Tryz.prog 139 #[v] w fun e w' => e = .returned (.tuple #[(readL l).1.v, .int .i64 ((readL l).2.1 : Int), .int .i64 (readL l).2.2]) ∧ Ext w w' := by
 obtain ⟨a, c, rfl⟩ := h.len
 have HM := Lib.hid (Mem.start0 w)
 have HE := Lib.hid hE
 have HB := Lib.hid h
 have HA := Lib.hid hA
 have HLL := Lib.hid hl
 clear hE h hA hl
 obtain ⟨Z, hZ⟩ : ∃ Z, readL l = Z := ⟨_, rfl⟩
 rw [hZ]
 have hRL := hZ
 unfold readL at hRL
 have HZ := Lib.hid hRL
 clear hZ hRL
 go_enter Tryz.func139, Tryz.ntmps139
 have fM := HM.out.fa
 go_wp2_with fail
 all_goals clear fM
 refine nxt HM fun w1 M => ?_
 clear HM; have HM := M; clear M
 obtain ⟨k0, hk0⟩ : ∃ k, w.heap.size = k := ⟨_, rfl⟩
 rw [hk0] at HM ⊢
 clear hk0
 refine (split_any w1 (.slice a l.length c) l (HB.out.ext HM.out.extTo) (fun k hk => Nat.lt_of_lt_of_le (HA.out k hk) HM.out.extTo.size) HLL.out).mono ?_
 rintro e w2 ⟨⟨x, rfl, hx⟩, hE2⟩
 have hsb := splitL_b l
 obtain ⟨⟨sb, n, no⟩, hs⟩ : ∃ s, splitL l = s := ⟨_, rfl⟩
 rw [hs] at hx HZ hsb ⊢
 dsimp only at hx HZ hsb ⊢
 have HX := Lib.hid hx
 have HX2 := Lib.hid hsb
 replace HM := Lib.hid (HM.out.ext hE2)
 have hlt : ∀ k, New w1 w2 k → k < w2.heap.size := fun k hk => hk.2
 have HLT := Lib.hid hlt
 clear hx hsb hs hE2 hlt
 by_cases h1 : no = 0
 case neg =>
  have HQ := Lib.hid (show Z = (Sd.of 0, 0, no) by rw [← HZ.out, if_pos (.inl h1)])
  have d1 : (no != 0) = true := by simpa using h1
  clear h1
  have fM := HM.out.fa
  go_wp2_with fail
  all_goals clear fM
  refine nxt HM fun w9 M => ?_
  clear HM; have HM := M; clear M
  obtain ⟨Ahb, hb⟩ := HM.out.get (r := cellsR k0 37 [.int .i64 0, .int .i64 0, .int .i64 0, .int .i64 0, .bool false, .string ⟨#[]⟩, .string ⟨#[]⟩, .int .i64 0, .int .i64 0, .int .i64 0, .string ⟨#[]⟩]) (by repeat first | exact ph | apply pt)
  refine bodyPost_ret (results_ctt Tryz.results139 _ rfl (run_loadVar_row w9 _ _ 37 _ (0, 0) _ hb.2 Tryz.underlying37 rfl (by kernel_rfl))) rfl ?_
  exact ⟨by rw [HQ.out]; rfl, HM.out.extTo⟩
 subst h1
 by_cases h2 : n = 0
 · have HQ := Lib.hid (show Z = (Sd.of 0, 0, 0) by rw [← HZ.out, if_pos (.inr h2)])
   subst h2
   have fM := HM.out.fa
   go_wp2_with fail
   all_goals clear fM
   refine nxt HM fun w9 M => ?_
   clear HM; have HM := M; clear M
   obtain ⟨Ahb, hb⟩ := HM.out.get (r := cellsR k0 37 [.int .i64 0, .int .i64 0, .int .i64 0, .int .i64 0, .bool false, .string ⟨#[]⟩, .string ⟨#[]⟩, .int .i64 0, .int .i64 0, .int .i64 0, .string ⟨#[]⟩]) (by repeat first | exact ph | apply pt)
   refine bodyPost_ret (results_ctt Tryz.results139 _ rfl (run_loadVar_row w9 _ _ 37 _ (0, 0) _ hb.2 Tryz.underlying37 rfl (by kernel_rfl))) rfl ?_
   exact ⟨by rw [HQ.out]; rfl, HM.out.extTo⟩
 have hz2 := HZ.out
 rw [if_neg (fun h => h.elim (fun h => h rfl) h2)] at hz2
 replace HZ := Lib.hid hz2
 have d2 : ((n : Int) == 0) = false := by simp; omega
 clear hz2 h2
 have fM := HM.out.fa
 go_wp2_with fail
 all_goals clear fM
 clear d2
 refine (parse_any W _ hT (HE.out.ext HM.out.extTo) x sb HX.out (by have := HX2.out; have := HLL.out; omega)).mono ?_
 rintro e w3 ⟨rfl, hE3⟩
 have hpe := parse_err sb
 obtain ⟨⟨s, no⟩, hp⟩ : ∃ p, parseL sb = p := ⟨_, rfl⟩
 rw [hp] at HZ hpe ⊢
 dsimp only at HZ hpe ⊢
 replace HM := Lib.hid (HM.out.ext hE3)
 clear hE3 hp
 by_cases h3 : no = 0
 case neg =>
  have HQ := Lib.hid (show Z = (Sd.of 0, 0, no) by rw [← HZ.out, if_pos h3])
  have hs0 := hpe h3
  subst hs0
  have d3 : (no != 0) = true := by simpa using h3
  clear h3 hpe
  rw [show (Sd.of 0).v = .agg #[.int .i64 0, .int .i64 0, .int .i64 0, .int .i64 0, .bool false, .string ⟨#[]⟩, .string ⟨#[]⟩, .int .i64 0, .int .i64 0, .int .i64 0, .string ⟨#[]⟩] from rfl]
  have fM := HM.out.fa
  go_wp2_with fail
  all_goals clear fM
  refine nxt HM fun w9 M => ?_
  clear HM; have HM := M; clear M
  obtain ⟨Ahb, hb⟩ := HM.out.get (r := cellsR k0 37 [.int .i64 0, .int .i64 0, .int .i64 0, .int .i64 0, .bool false, .string ⟨#[]⟩, .string ⟨#[]⟩, .int .i64 0, .int .i64 0, .int .i64 0, .string ⟨#[]⟩]) (by repeat first | exact ph | apply pt)
  refine bodyPost_ret (results_ctt Tryz.results139 _ rfl (run_loadVar_row w9 _ _ 37 _ (0, 0) _ hb.2 Tryz.underlying37 rfl (by kernel_rfl))) rfl ?_
  exact ⟨by rw [HQ.out]; rfl, HM.out.extTo⟩
 subst h3
 have HQ := Lib.hid (show Z = (s, n, 0) by rw [← HZ.out, if_neg (fun h => h rfl)])
 clear hpe
 unfold Sd.v Sd.cells
 have fM := HM.out.fa
 go_wp2_with fail
 all_goals clear fM
 refine nxt HM fun w9 M => ?_
 clear HM; have HM := M; clear M
 obtain ⟨Ahb, hb⟩ := HM.out.get (r := cellsR k0 37 [.int .i64 s.kind, .int .i64 s.member, .int .i64 s.number, .int .i64 s.index, .bool s.is, .string (bs s.text), .string (bs s.token), .int .i64 s.e.kind, .int .i64 s.e.member, .int .i64 s.e.number, .string (bs s.e.text)]) (by repeat first | exact ph | apply pt)
 refine bodyPost_ret (results_ctt Tryz.results139 _ rfl (run_loadVar_row w9 _ _ 37 _ (0, 0) _ hb.2 Tryz.underlying37 rfl (by kernel_rfl))) rfl ?_
 exact ⟨by rw [HQ.out]; rfl, HM.out.extTo⟩
end
section
theorem splitL_app {m : List UInt8} (h : m.length ≤ 4096) (r : List UInt8) : splitL (frameL m ++ r) = (m, (frameL m).length, 0) := by
 have h1 := takeL_num (n := m.length + 4) (by unfold topN; omega) (sealL m ++ r)
 have h2 := numL_len (m.length + 4)
 have hf : frameL m ++ r = numL (m.length + 4) ++ (sealL m ++ r) := by unfold frameL; rw [List.append_assoc]
 have hd : (frameL m ++ r).drop (numL (m.length + 4)).length = sealL m ++ r := by rw [hf]; exact List.drop_left' rfl
 have ht : (sealL m ++ r).take (m.length + 4) = sealL m := List.take_left' (sealL_len m)
 unfold splitL
 rw [hf, h1, ← hf]
 dsimp only
 rw [if_neg (by omega), if_neg (by omega), Int.toNat_natCast, hd, ht, open_seal, if_neg (by
  rw [hf, List.length_append, List.length_append, sealL_len]; omega)]
 dsimp only
 unfold frameL
 rw [List.length_append, sealL_len]
theorem num_back (n : Nat) (g : Int) (hg : (n : Int) ≤ g) (ht : n ≤ topN) (r : List UInt8) : (⟨numL n ++ r, 0⟩ : Rdr).num g = (⟨r, 0⟩, n, 0) := by
 have h1 := takeL_num ht r
 have h2 := numL_len n
 unfold Rdr.num
 rw [if_neg (by simp), if_neg (by omega)]
 dsimp only
 rw [h1]
 dsimp only
 rw [if_pos ⟨by omega, hg⟩, Int.toNat_natCast, List.drop_left' rfl]
theorem txt_back (s : List UInt8) (hs : s.length ≤ 200) (r : List UInt8) : (⟨txtL s ++ r, 0⟩ : Rdr).txt 200 = (⟨r, 0⟩, s, 0) := by
 have h1 : (⟨txtL s ++ r, 0⟩ : Rdr).num 200 = (⟨s ++ r, 0⟩, s.length, 0) := by
  unfold txtL
  rw [List.append_assoc]
  exact num_back s.length 200 (by omega) (by unfold topN; omega) _
 unfold Rdr.txt
 rw [h1]
 dsimp only
 rw [if_neg (by simp), if_pos (by rw [List.length_append]; omega), List.drop_left' rfl, List.take_left' rfl]
theorem tru_back (b : Bool) (r : List UInt8) : (⟨truL b ++ r, 0⟩ : Rdr).tru = (⟨r, 0⟩, b, 0) := by
 cases b <;> rfl
theorem entry_back (e : En) (x : Sd) (hx : x.e = En0) (hk : e.kind ≠ 1) (h : enB e = true) (s : Sd) (hs : s.e = e) (r : List UInt8) : Part.entry.take ⟨Part.entry.lay s ++ r, 0⟩ x = (⟨r, 0⟩, { x with e := e }) := by
 obtain ⟨⟨k0, k4⟩, ⟨m0, m15⟩, h4⟩ := enB_bounds hk h
 have hne : e.kind ≠ 4 → e.number = 0 ∧ e.text = [] := fun h5 => by
  unfold enB at h
  simp [hk, h5] at h
  have h6 := h.2.2
  unfold aloneB at h6
  have h7 := of_decide_eq_true h6
  exact ⟨congrArg En.number h7, congrArg En.text h7⟩
 obtain ⟨k, m, n, t⟩ := e
 dsimp only at k0 k4 m0 m15 h4 hne
 obtain ⟨k, rfl⟩ := Int.eq_ofNat_of_zero_le k0
 obtain ⟨m, rfl⟩ := Int.eq_ofNat_of_zero_le m0
 unfold Part.take Part.lay
 dsimp only
 rw [hs]
 dsimp only
 rw [Int.toNat_natCast, Int.toNat_natCast]
 by_cases h5 : (k : Int) = 4
 · obtain ⟨a1, a2, a3⟩ := h4 h5
   obtain ⟨n, rfl⟩ := Int.eq_ofNat_of_zero_le a1
   rw [if_pos h5, Int.toNat_natCast]
   rw [show numL k ++ numL m ++ (numL n ++ txtL t) ++ r = numL k ++ (numL m ++ (numL n ++ (txtL t ++ r))) by simp]
   rw [num_back k 4 (by omega) (by unfold topN; omega)]
   dsimp only
   rw [num_back m 15 (by omega) (by unfold topN; omega)]
   dsimp only
   rw [if_pos (by omega), num_back n 2147483647 (by omega) (by unfold topN; omega)]
   dsimp only
   rw [txt_back t a3]
 · obtain ⟨b1, b2⟩ := hne h5
   subst b1 b2
   rw [if_neg h5]
   rw [show numL k ++ numL m ++ [] ++ r = numL k ++ (numL m ++ r) by simp]
   rw [num_back k 4 (by omega) (by unfold topN; omega)]
   dsimp only
   rw [num_back m 15 (by omega) (by unfold topN; omega)]
   dsimp only
   rw [if_neg (by omega), hx]
   rfl
theorem take_back (p : Part) (s x : Sd) (hm : p.may s = true) (hb : bndB s = true) (ht : s.text.length ≤ 200 ∨ p ≠ .said) (hx : x.e = En0) (r : List UInt8) : p.take ⟨p.lay s ++ r, 0⟩ x = (⟨r, 0⟩, p.keep s x) := by
 obtain ⟨g1, g2, g3, g4, g5, g6, g7⟩ := (bnd_iff s).1 hb
 cases p
 · unfold Part.take Part.lay Part.keep
   dsimp only
   rw [num_back s.member.toNat 15 (by omega) (by unfold topN; omega)]
   dsimp only
   rw [Int.toNat_of_nonneg g1]
 · unfold Part.take Part.lay Part.keep
   dsimp only
   rw [num_back s.number.toNat 2147483647 (by omega) (by unfold topN; omega)]
   dsimp only
   rw [Int.toNat_of_nonneg g3]
 · unfold Part.take Part.lay Part.keep
   dsimp only
   rw [num_back s.index.toNat 2147483647 (by omega) (by unfold topN; omega)]
   dsimp only
   rw [Int.toNat_of_nonneg g5]
 · unfold Part.take Part.lay Part.keep
   dsimp only
   rw [tru_back]
 · unfold Part.take Part.lay Part.keep
   dsimp only
   rw [txt_back s.text (ht.resolve_right (fun h => h rfl))]
 · unfold Part.take Part.lay Part.keep
   dsimp only
   rw [txt_back s.token g7]
 · unfold Part.may at hm
   simp only [Bool.and_eq_true, decide_eq_true_eq] at hm
   exact entry_back s.e x hx hm.1 hm.2 s rfl r
theorem Part.keep_e (p : Part) (s x : Sd) (h : p ≠ .entry) : (p.keep s x).e = x.e := by
 cases p <;> first | rfl | exact absurd rfl h
theorem takeAll_back (s : Sd) (hb : bndB s = true) : ∀ (ps : List Part) (x : Sd) (r : List UInt8), (ps.all fun p => p.may s) = true → (ps.map Part.slot).Nodup → (.said ∈ ps → s.text.length ≤ 200) → (.entry ∈ ps → x.e = En0) → x.e = En0 →
 takeAll ps ⟨(ps.map fun p => p.lay s).flatten ++ r, 0⟩ x = (⟨r, 0⟩, ps.foldl (fun x p => p.keep s x) x)
 | [], x, r, _, _, _, _, _ => rfl
 | p :: ps, x, r, hm, hn, ht, he, hx => by
   rw [List.all_cons, Bool.and_eq_true] at hm
   rw [List.map_cons, List.nodup_cons] at hn
   rw [takeAll_cons, List.map_cons, List.flatten_cons, List.append_assoc, take_back p s x hm.1 hb (by
    by_cases h : p = .said
    · exact .inl (ht (by rw [h]; exact List.mem_cons_self ..))
    · exact .inr h) hx]
   dsimp only
   by_cases hpe : p = .entry
   · have hne : ∀ q ∈ ps, q ≠ .entry := fun q hq e => hn.1 (by rw [hpe, ← e]; exact List.mem_map_of_mem hq)
     exact takeAll_tail s hb ps (p.keep s x) r hm.2 (fun h => ht (List.mem_cons_of_mem _ h)) hne
   · exact takeAll_back s hb ps (p.keep s x) r hm.2 hn.2 (fun h => ht (List.mem_cons_of_mem _ h)) (fun _ => by rw [p.keep_e s x hpe]; exact hx) (by rw [p.keep_e s x hpe]; exact hx)
where
 takeAll_tail (s : Sd) (hb : bndB s = true) : ∀ (ps : List Part) (x : Sd) (r : List UInt8), (ps.all fun p => p.may s) = true → (.said ∈ ps → s.text.length ≤ 200) → (∀ q ∈ ps, q ≠ .entry) →
  takeAll ps ⟨(ps.map fun p => p.lay s).flatten ++ r, 0⟩ x = (⟨r, 0⟩, ps.foldl (fun x p => p.keep s x) x)
  | [], x, r, _, _, _ => rfl
  | p :: ps, x, r, hm, ht, hne => by
    rw [List.all_cons, Bool.and_eq_true] at hm
    have hp := hne p (List.mem_cons_self ..)
    have hte : p.take ⟨p.lay s ++ ((ps.map fun p => p.lay s).flatten ++ r), 0⟩ x = (⟨(ps.map fun p => p.lay s).flatten ++ r, 0⟩, p.keep s x) := by
     have h1 := take_back p s { x with e := En0 } hm.1 hb (by
      by_cases h : p = .said
      · exact .inl (ht (by rw [h]; exact List.mem_cons_self ..))
      · exact .inr h) rfl ((ps.map fun p => p.lay s).flatten ++ r)
     cases p <;> first | exact absurd rfl hp | (unfold Part.take Part.keep at h1 ⊢; dsimp only at h1 ⊢; simp only [Prod.mk.injEq, Sd.mk.injEq, true_and, and_true] at h1 ⊢; exact h1)
    rw [takeAll_cons, List.map_cons, List.flatten_cons, List.append_assoc, hte]
    exact takeAll_tail s hb ps (p.keep s x) r hm.2 (fun h => ht (List.mem_cons_of_mem _ h)) (fun q hq => hne q (List.mem_cons_of_mem _ hq))
theorem parse_body (s : Sd) (h : sdB s = true) : parseL (bodyL s) = (s, 0) := by
 have h0 := h
 rw [← right_eq] at h0
 simp only [Bool.and_eq_true, decide_eq_true_eq] at h0
 obtain ⟨⟨⟨hk, hlone⟩, hbd⟩, hown⟩ := h0
 obtain ⟨ps, hps, hall⟩ : ∃ ps, partsOf s.kind = some ps ∧ (ps.all fun p => p.may s) = true := by
  unfold sdB at h
  split at h
  · cases h
  · rename_i ps hps
    rw [Bool.and_eq_true] at h
    exact ⟨ps, hps, h.2⟩
 have hnd := partsOf_nodup s.kind
 rw [hps] at hnd
 have ht : .said ∈ ps → s.text.length ≤ 200 := fun hmem => by
  have := List.all_eq_true.1 hall _ hmem
  unfold Part.may at this
  exact chk_200 (by simpa using this)
 have hkn : ((s.kind.toNat : Nat) : Int) = s.kind := Int.toNat_of_nonneg (by omega)
 have hnum := num_back s.kind.toNat 12 (by omega) (by unfold topN; omega) ((ps.map fun p => p.lay s).flatten)
 have htk := takeAll_back s hbd ps (Sd.of s.kind) [] hall hnd ht (fun _ => rfl) rfl
 rw [List.append_nil] at htk
 have hlo : ps.foldl (fun x p => p.keep s x) (Sd.of s.kind) = s := by
  conv => rhs; rw [hlone]
  unfold loneS
  rw [hps]
  rfl
 rw [hlo] at htk
 have hbo : bodyL s = numL s.kind.toNat ++ (ps.map fun p => p.lay s).flatten := by unfold bodyL; rw [hps]; rfl
 unfold parseL
 rw [hbo, hnum]
 dsimp only
 rw [hkn, hps, Option.getD_some, htk]
 rw [if_pos ⟨rfl, rfl, rfl, h⟩]
theorem readL_app (s : Sd) (h : sdB s = true) (r : List UInt8) : readL (frameL (bodyL s) ++ r) = (s, (frameL (bodyL s)).length, 0) := by
 have hb := body_len s h
 have h1 := splitL_app (m := bodyL s) (by omega) r
 have h2 : (frameL (bodyL s)).length ≠ 0 := by
  have := numL_len ((bodyL s).length + 4)
  unfold frameL
  rw [List.length_append]
  omega
 unfold readL
 rw [h1]
 dsimp only
 rw [if_neg (fun g => g.elim (fun g => g rfl) h2), parse_body s h, if_neg (fun g => g rfl)]
end
end Go.Proofs.YtoadjbgpfihoiaaGreatDoor
