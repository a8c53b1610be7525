/- A range over a function whose iterator hands on a known list: the caller's rule, and what an iterator owes. No program is named here. -/
import Derived.Test.YthhdgjofagdjeaaDoorPlan
import Derived.RangeFuncBound
import Derived.RangeFuncCalls
import Derived.RangeFuncLeaves
import Derived.Shelf.Abstract
import Derived.OrdersIn
import Derived.WalkMore
set_option linter.unusedVariables false
set_option linter.unusedSimpArgs false
namespace Go.Proofs.YthhdgjofagdjeaaDoor
open Go.RowKit

def Mark (w : World) (D : Nat) : Prop := w.heap[D]? = some (.deferred (some []))
def markOf (D : Nat) : Deferred := { target := .collected D, args := #[] }
theorem Mark.keeps {w w' : World} {D : Nat} {S : Nat → Prop} (h : Mark w D) (hk : Keeps S w w') (hs : ¬ S D) : Mark w' D :=
  (hk.block D (Array.getElem?_eq_some_iff.1 h).1 hs).trans h
theorem Mark.lt {w : World} {D : Nat} (h : Mark w D) : D < w.heap.size := (Array.getElem?_eq_some_iff.1 h).1

/-- what an iterator owes: it hands on xs, one by one, as Rv says; S: the old blocks that the rounds may turn -/
def IterOK {α : Type} (F : Fence) (n : Nat) (P : Program) (gf : Nat) (lb : Array Value) (xs : List α) (Rv : α → Array Value → World → World → Prop) (S : Nat → Prop) (w0 : World) : Prop :=
  ∀ (l : Nat) (J Jx : Nat → World → Prop) (W : World), w0.heap.size ≤ l →
    (∀ k W, J k W → Keeps S w0 W) → (∀ k W, J k W → w0.heap.size + 1 < W.heap.size) → (∀ k W W', J k W → Ext W W' → J k W') → (∀ k W W', Jx k W → Ext W W' → Jx k W') →
    (∀ k (hk : k < xs.length) v W2 W1, J k W2 → Ext W2 W1 → Rv xs[k] v W2 W1 → YieldAt F (n - 1) P l v W1 fun e W' =>
      (e = .returned (.bool true) ∧ J (k + 1) W') ∨ (e = .returned (.bool false) ∧ Jx (k + 1) W')) →
    J 0 W → CallsIn F n P gf (#[.func (.yield l) #[] #[]] ++ lb) W fun e W' => (∃ v, e = .returned v) ∧ (J xs.length W' ∨ ∃ k, k < xs.length ∧ Jx (k + 1) W')

/-- the blocks that a round may turn: old ones of S, and those laid since the loop began -/
def RB (S : Nat → Prop) (n : Nat) : Nat → Prop := fun b => (b < n ∧ S b) ∨ n + 2 ≤ b

def roundEnd (S : Nat → Prop) (n : Nat) (I : Nat → World → Prop) (Ix : Code → Nat → World → Prop) (k : Nat) (W : World) : Exit → Act → World → Prop
  | .normal, _, W' => Keeps (RB S n) W W' ∧ I k W'
  | .ret, _, W' => Keeps (RB S n) W W' ∧ Ix .ret k W'
  | .exit id, _, W' => Keeps (RB S n) W W' ∧ Ix (.exit id) k W'
  | .goto t, _, W' => Keeps (RB S n) W W' ∧ Ix (.goto t) k W'
  | .panic _, _, _ => False
  | .outgrown, _, _ => False

section
variable {F : Fence} {n : Nat} {P : Program}
theorem wpIn_range {α : Type} {g : Operand} {ps : Array Tmp} {assign body : Code} {Q : Exit → Act → World → Prop} {a : Act} {w : World}
    (hro : F.round = none) (h1 : 1 ≤ n) {gf : Nat} {lb : Array Value} (hg : a.eval g = .func (.func gf) #[] lb) (hFg : F.fn gf) (eg : ∀ args w, (callFunc gf args).run P w = .ok (.enter gf args) w)
    {xs : List α} {Rv : α → Array Value → World → World → Prop} {S : Nat → Prop} (hiter : IterOK F (n - 1) P gf lb xs Rv S w) (hps : ∀ x v W0 W, Rv x v W0 W → v.size = ps.size)
    (I : Nat → World → Prop) (Ix : Code → Nat → World → Prop) (hIk : ∀ k W, I k W → Keeps S w W)
    (hI : ∀ k W W', I k W → Keeps (OneB (w.heap.size + 1)) W W' → I k W') (hIx : ∀ c k W W', Ix c k W → Keeps (OneB (w.heap.size + 1)) W W' → Ix c k W') (h0 : I 0 w)
    (hround : ∀ k (hk : k < xs.length) v W0 W, I k W0 → Ext W0 W → I k W → Rv xs[k] v W0 W → w.heap.size + 1 < W0.heap.size → w.heap.size + 1 < W.heap.size →
      assign.wpIn (F.inRound (w.heap.size + 1)) (n - 1 - 1) P (Exit.then (fun a' W' => Keeps (RB S w.heap.size) W W' ∧
        ∀ W2, Keeps (OneB (w.heap.size + 1)) W' W2 → body.wpIn (F.inRound (w.heap.size + 1)) (n - 1 - 1) P (roundEnd S w.heap.size I Ix (k + 1) W2) a' W2) (fun _ _ _ => False))
        { tmps := (ps.zip v).foldl (fun t (p, v) => t.setIfInBounds p v) a.tmps, defers := [] } W)
    (hdone : ∀ W, I xs.length W → Mark W w.heap.size → Q .normal { a with defers := markOf w.heap.size :: a.defers } W)
    (hstop : ∀ c k W, k < xs.length → Ix c (k + 1) W → Mark W w.heap.size → c.wpIn F n P Q { a with defers := markOf w.heap.size :: a.defers } W) :
    (Code.rangeFunc g ps assign body).wpIn F n P Q a w := by
  refine wpIn_rangeFunc ?_
  intro fn hfn
  rw [hro]
  obtain ⟨rec, hrec⟩ : ∃ rec : LoopState → Option Code → Loop, rec = fun st pe => { state := st, pending := pe, fn, tmps := a.tmps, params := ps, assign, body, defers := w.heap.size } := ⟨_, rfl⟩
  obtain ⟨W1, hW1⟩ : ∃ W1, (w.alloc (.deferred (some []))).alloc (.loop (rec .ready none)) = W1 := ⟨_, rfl⟩
  have hL1 : W1.heap[w.heap.size + 1]? = some (.loop (rec .ready none)) := by
    rw [← hW1]; have := World.alloc_heap_new (w.alloc (.deferred (some []))) (.loop (rec .ready none)); rwa [World.size_alloc] at this
  have hK1 : Mark W1 w.heap.size := by
    rw [← hW1]; exact (Below.heap_alloc _ _ _ (by simp)).trans (World.alloc_heap_new w _)
  have hE1 : Ext w W1 := by rw [← hW1]; exact ((Keeps.refl _ w).alloc _).alloc _
  have hI1 : I 0 W1 := hI 0 w W1 h0 (Ext.keeps hE1)
  have hDL : ¬ OneB (w.heap.size + 1) w.heap.size := by unfold OneB; omega
  have put1 : ∀ (W : World) (o : Obj), Keeps (OneB (w.heap.size + 1)) W (W.putObj (w.heap.size + 1) o) := fun W o => (Keeps.refl _ W).putObj _ o (.inl rfl)
  have nL : ¬ RB S w.heap.size (w.heap.size + 1) := by unfold RB; omega
  have nD : ¬ RB S w.heap.size w.heap.size := by unfold RB; omega
  refine ⟨w.heap.size + 1, [markOf w.heap.size], W1, { target := .fn (.func gf) lb, args := #[.func (.yield (w.heap.size + 1)) #[] #[]] }, W1, gf,
    #[.func (.yield (w.heap.size + 1)) #[] #[]] ++ lb, W1, ?_, ?_, ?_, ?_, fun _ => h1, ?_⟩
  · rw [← hW1, hrec]; exact run_enterLoop_outer _ _ _ _ _
  · simp only [resolve, hg]
    simp [go_sem]
  · intro f' hf'; simp [Target.leads] at hf'; subst hf'; exact hFg
  · simp [invoke, go_sem, eg]
  · refine (hiter (w.heap.size + 1)
      (fun k W => I k W ∧ W.heap[w.heap.size + 1]? = some (.loop (rec .ready none)) ∧ Mark W w.heap.size)
      (fun k W => ∃ c, Ix c k W ∧ W.heap[w.heap.size + 1]? = some (.loop (rec .done (some c))) ∧ Mark W w.heap.size)
      W1 (by omega) (fun k W h => hIk k W h.1) (fun k W h => (Array.getElem?_eq_some_iff.1 h.2.1).1)
      (fun k W W' h he => ⟨hI k W W' h.1 (Ext.keeps he), (he.block _ (Array.getElem?_eq_some_iff.1 h.2.1).1 (noB _)).trans h.2.1, h.2.2.keeps he (noB _)⟩)
      (fun k W W' h he => by
        obtain ⟨c, h1, h2, h3⟩ := h
        exact ⟨c, hIx c k W W' h1 (Ext.keeps he), (he.block _ (Array.getElem?_eq_some_iff.1 h2).1 (noB _)).trans h2, h3.keeps he (noB _)⟩)
      ?_ ⟨hI1, hL1, hK1⟩).mono ?_
    · rintro k hk v W0 W ⟨hi0, hl0, hm0⟩ hE0 hv
      have hi : I k W := hI k W0 W hi0 (Ext.keeps hE0)
      have hlt0 : w.heap.size + 1 < W0.heap.size := (Array.getElem?_eq_some_iff.1 hl0).1
      have hl := (hE0.block _ hlt0 (noB _)).trans hl0
      have hm : Mark W w.heap.size := hm0.keeps hE0 (noB _)
      have hlt : w.heap.size + 1 < W.heap.size := (Array.getElem?_eq_some_iff.1 hl).1
      have hy := run_yield (P := P) (args := v) hl (by rw [hrec]; exact hps _ _ _ _ hv)
      rw [hrec] at hy
      refine ⟨fn, _, assign, body, hy, roundIn_of_wpIn hfn (wpIn_mono (hround k hk v W0 W hi0 hE0 hi hv hlt0 hlt) ?_)⟩
      rintro e a' Wa hp
      cases e with
      | normal =>
        obtain ⟨hka, hbody⟩ := hp
        have hla : Wa.heap[w.heap.size + 1]? = some (.loop (rec .ready none)) := (hka.block _ hlt nL).trans hl
        have hma : Mark Wa w.heap.size := hm.keeps hka nD
        have hlta : w.heap.size + 1 < Wa.heap.size := (Array.getElem?_eq_some_iff.1 hla).1
        refine ⟨_, run_beginRound hla (by rw [hrec]), ?_⟩
        have hl2 : (Wa.putObj (w.heap.size + 1) (.loop { rec .ready none with state := .busy })).heap[w.heap.size + 1]? = some (.loop { rec .ready none with state := .busy }) := World.putObj_heap_same hlta
        have hm2 : Mark (Wa.putObj (w.heap.size + 1) (.loop { rec .ready none with state := .busy })) w.heap.size := hma.keeps (put1 _ _) hDL
        refine wpIn_mono (hbody _ (put1 _ _)) ?_
        have fin : ∀ (jump : Option Code) (W3 : World), Keeps (RB S w.heap.size) (Wa.putObj (w.heap.size + 1) (.loop { rec .ready none with state := .busy })) W3 →
            (Instr.endRound (w.heap.size + 1) jump).run P W3 = .ok (.bool jump.isNone) (W3.putObj (w.heap.size + 1) (.loop (rec (if jump.isNone then .ready else .done) jump))) ∧
            (W3.putObj (w.heap.size + 1) (.loop (rec (if jump.isNone then .ready else .done) jump))).heap[w.heap.size + 1]? = some (.loop (rec (if jump.isNone then .ready else .done) jump)) ∧
            Mark (W3.putObj (w.heap.size + 1) (.loop (rec (if jump.isNone then .ready else .done) jump))) w.heap.size := fun jump W3 hk3 => by
          have hl3 := (hk3.block _ (Array.getElem?_eq_some_iff.1 hl2).1 nL).trans hl2
          have := run_endRound (P := P) jump hl3
          rw [hrec] at this ⊢
          exact ⟨this, World.putObj_heap_same (Array.getElem?_eq_some_iff.1 hl3).1, (hm2.keeps hk3 nD).keeps (put1 _ _) hDL⟩
        rintro e a3 W3 hp
        cases e with
        | normal =>
          obtain ⟨hk3, hi3⟩ := hp
          obtain ⟨hr, hl4, hm4⟩ := fin none W3 hk3
          exact ⟨_, _, hr, .inl ⟨rfl, hI _ _ _ hi3 (put1 _ _), hl4, hm4⟩⟩
        | ret =>
          obtain ⟨hk3, hi3⟩ := hp
          obtain ⟨hr, hl4, hm4⟩ := fin (some .ret) W3 hk3
          exact ⟨_, _, hr, .inr ⟨rfl, .ret, hIx _ _ _ _ hi3 (put1 _ _), hl4, hm4⟩⟩
        | exit id =>
          obtain ⟨hk3, hi3⟩ := hp
          obtain ⟨hr, hl4, hm4⟩ := fin (some (.exit id)) W3 hk3
          exact ⟨_, _, hr, .inr ⟨rfl, .exit id, hIx _ _ _ _ hi3 (put1 _ _), hl4, hm4⟩⟩
        | goto t =>
          obtain ⟨hk3, hi3⟩ := hp
          obtain ⟨hr, hl4, hm4⟩ := fin (some (.goto t)) W3 hk3
          exact ⟨_, _, hr, .inr ⟨rfl, .goto t, hIx _ _ _ _ hi3 (put1 _ _), hl4, hm4⟩⟩
        | panic ch => exact hp.elim
        | outgrown => exact hp.elim
      | ret => exact hp.elim
      | exit id => exact hp.elim
      | goto t => exact hp.elim
      | panic ch => exact hp.elim
      | outgrown => exact hp.elim
    · rintro e W2 ⟨⟨v, rfl⟩, (⟨hi, hl, hm⟩ | ⟨k, hk, c, hi, hl, hm⟩)⟩
      · exact ⟨none, _, by have := run_endLoop (P := P) hl (by rw [hrec]; simp); rw [hrec] at this; exact this, hdone _ (hI _ _ _ hi (put1 _ _)) (hm.keeps (put1 _ _) hDL)⟩
      · exact ⟨some c, _, by have := run_endLoop (P := P) hl (by rw [hrec]; simp); rw [hrec] at this; exact this, hstop c k _ hk (hIx _ _ _ _ hi (put1 _ _)) (hm.keeps (put1 _ _) hDL)⟩

/-- the end of a function behind such loops: the marks are taken over, one by one -/
theorem leaves_marks {fn : Func} {tmps : Array Value} {R : Ending → World → Prop} : ∀ (Ds : List Nat) (w : World), Ds.Nodup → (∀ D, D ∈ Ds → Mark w D) →
    (∀ w', Keeps (fun b => b ∈ Ds) w w' → ∃ v, (results fn tmps).run P w' = .ok v w' ∧ R (.returned v) w') → LeavesInM F n P fn tmps R (Ds.map markOf) .returning w
  | [], w, _, _, h => by
    obtain ⟨v, h1, h2⟩ := h w (Keeps.refl _ _)
    exact ⟨v, h1, h2⟩
  | D :: Ds, w, hn, hm, h => by
    have hD := hm D (by simp)
    refine ⟨by simp, .inl ⟨D, _, rfl, run_takeDeferred hD, ?_⟩⟩
    have hp : Keeps (OneB D) w (w.putObj D (.deferred none)) := (Keeps.refl _ w).putObj _ _ (.inl rfl)
    have hnd := List.nodup_cons.1 hn
    refine leaves_marks Ds _ hnd.2 (fun E hE => (hm E (by simp [hE])).keeps hp (fun e => hnd.1 (by rw [← show E = D from e]; exact hE))) ?_
    intro w' hk
    exact h w' ((hp.mono (T := fun b => b ∈ D :: Ds) fun k _ hk => by rw [show k = D from hk]; simp).then hk fun i _ hi => by simp [hi])
end

/-! ### regions within a round, and in the wide fence, by the plain walk -/
section
variable {P : Program} {Q : Exit → Act → World → Prop} {n : Nat}
def noDefer (l : List Oper) : Bool := l.all fun o => match o.op with | .defer _ => false | _ => true
theorem noDefer_spec {l : List Oper} (h : noDefer l = true) {o : Oper} (ho : o ∈ l) : ∀ c, o.op ≠ .defer c := by
  intro c hc
  have := List.all_eq_true.1 h o ho
  rw [hc] at this
  cases this
theorem calls_inRound {r : Nat} {f : FuncId} {args : Array Value} {w : World} {R : Ending → World → Prop} (h : Calls P f args w R) : CallsIn (Fence.wide.inRound r) n P f args w R :=
  CallsIn.inRound r (callsIn_wide.2 h)
theorem rows_inRound {r : Nat} {row : String} {args : Array Value} {w : World} {R : Value → World → Prop} (h : Rows P row args w R) : RowsIn (Fence.wide.inRound r) n P row args w R :=
  fun c cs _ => let ⟨v, w', h1, h2⟩ := h c cs; ⟨v, w', h1, stepsIn_wide.2 h2⟩
theorem wpIn_of_wp {o : Oper} {r : Nat} {a : Act} {w : World} {K : Act → World → Prop} (hd : ∀ c, o.op ≠ .defer c) (h : o.wp P a w K Q) : o.wpIn (Fence.wide.inRound r) n P a w K Q := by
  refine ⟨fun _ _ => trivial, ?_⟩
  rw [Oper.semAt_plain _ _ _ hd]
  unfold Oper.wp at h
  generalize (execOp a.eval o).run P w = q at *
  cases q with
  | ok x w' =>
    cases x <;> simp only [Oper.upon] at h <;> simp only [Oper.uponIn]
    case value u => exact h
    case skip => exact h
    case defer d => exact h
    case enter f args => exact ⟨fun h => by simp [Fence.wide] at h, calls_inRound h⟩
    case row row args => exact ⟨fun h => by simp [Fence.wide] at h, rows_inRound h⟩
  | halt x w' =>
    cases x <;> simp only [Oper.upon] at h <;> simp only [Oper.uponIn]
    case panic u => exact h
theorem opsIn_of_ops {l : List Oper} {r : Nat} (hd : noDefer l = true) (hout : ¬ LetsOut Q) : ∀ (is : List Nat) (a : Act) (w : World), wpOps P l.toArray Q is a w → wpOpsIn (Fence.wide.inRound r) n P l.toArray Q is a w
  | [], _, _, h => h
  | i :: is, a, w, h => by
    simp only [wpOps] at h
    simp only [wpOpsIn]
    cases ho : l.toArray[i]? with
    | none => simp only [ho] at h ⊢; exact opsIn_of_ops hd hout is a w h
    | some o =>
      simp only [ho] at h ⊢
      have hm : o ∈ l := by
        have := Array.mem_of_getElem? ho
        simpa using this
      split
      · rename_i hw
        rw [if_pos hw] at h
        rcases h with h | h
        · exact Oper.wpIn_mono (fun a w h => opsIn_of_ops hd hout is a w h) (wpIn_of_wp (noDefer_spec hd hm) h)
        · exact (hout h.2).elim
      · rename_i hw
        rw [if_neg hw] at h
        exact ⟨fun _ _ => trivial, opsIn_of_ops hd hout is _ w h⟩
theorem wpIn_region_flat {id r : Nat} {a : Act} {w : World} {l : List Oper} (hd : noDefer l = true) (hout : ¬ LetsOut Q) (h : wpList P l.toArray Q l a w) : (Code.region id l.toArray false).wpIn (Fence.wide.inRound r) n P Q a w := by
  refine wpIn_region (opsIn_of_ops hd hout _ _ _ ?_)
  rw [List.range_eq_range', ← Array.length_toList, wpOps_eq_wpList _ 0 (by simp)]
  exact h
theorem wpIn_region_plan {id r : Nat} {a : Act} {w : World} {l : List Oper} (pl : List (Nat × Nat)) (ls es tl : List Nat) (C : World → Prop) (hd : noDefer l = true) (hout : ¬ LetsOut Q) (hm : P.follows .mixedOrders = true) (hs : Region.noSelect l.toArray = true)
    (hp : planOK .any l.toArray ls es tl (Array.replicate l.toArray.size false) pl = true) (hl : pl.length + tl.length = l.toArray.size) (hmap : tl.map (l.toArray[·]?) = (tailL l.toArray tl).map some) (hC : C w.drew)
    (hQ : ∀ c a w d v, Q (.panic c) (Act.put a d v) w → Q (.panic c) a w)
    (h : Pl P l.toArray Q C (wpList P l.toArray Q (tailL l.toArray tl)) (planL l.toArray pl) a w.drew) : (Code.region id l.toArray true).wpIn (Fence.wide.inRound r) n P Q a w := by
  refine wpIn_region_draw fun t => opsIn_of_ops hd hout _ _ _ ?_
  have ha : wpAny P .any l.toArray Q l.toArray.size (Array.replicate l.toArray.size false) a w.drew := by
    refine wpAny_of_T (C := C) (ls := ls) _ _ _ _ (plan_sound hs (fun c a w o v _ => hQ c a w o.dst v) tl _ hmap pl _ _ a _ hp hl ?_ hC h.out)
    intro j o ho hj
    exfalso
    revert hj
    rw [Array.getD_eq_getD_getElem?, Array.getElem?_replicate]
    split <;> simp
  simp only [Region.schedule, hm, Bool.true_or, if_true]
  exact wpAny_sound _ _ _ _ _ ha
end
theorem wpIn_scope {P : Program} {Q : Exit → Act → World → Prop} {n : Nat} {c : Code} {a : Act} {w : World} (h : c.wpIn Fence.wide n P (Exit.noGoto Q) a w) : (Code.scope c).wpIn Fence.wide n P Q a w :=
  wpIn_wide.2 (wp_scope_straight (wpIn_wide.1 h))
end Go.Proofs.YthhdgjofagdjeaaDoor
