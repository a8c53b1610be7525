/- Texts Range, Brk, Lift, Win, OpenS, RowsS, StopS, Sep, Wide, SepB, Row, one behind the other. Conditions: as each says. -/
import Derived.Test.YtcfgnbbiljohjaaGreatDoorPkA
import Derived.RangeFuncBound
import Derived.RangeFuncCalls
import Derived.RangeFuncLeaves
import Derived.Shelf.Abstract
import Derived.OrdersIn
import Derived.WalkMore
import Derived.Test.YtcfgnbbiljohjaaGreatDoorRows
import Derived.OpenShut
import Derived.ChangeSame
import Derived.Deep.Upon
import Derived.Deep.MidRow
import Derived.Deep.Slices
import Derived.Carry
import Derived.Defers
import Derived.Laws.Rows
import Derived.Lib.ReflectliteSwap
section
/- A range over a function whose iterator hands on a known list: the caller's rule, and what an iterator owes. No program is named here. -/
set_option linter.unusedVariables false
set_option linter.unusedSimpArgs false
namespace Go.Proofs.YtcfgnbbiljohjaaGreatDoor
open Go.RowKit

def Mark (w : World) (D : Nat) : Prop := w.heap[D]? = some (.deferred (some []))
def markOf (D : Nat) : Deferred := { target := .collected D, args := #[] }
theorem Mark.keeps {w w' : World} {D : Nat} {S : Nat → Prop} (h : Mark w D) (hk : Keeps S w w') (hs : ¬ S D) : Mark w' D :=
  (hk.block D (Array.getElem?_eq_some_iff.1 h).1 hs).trans h
theorem Mark.lt {w : World} {D : Nat} (h : Mark w D) : D < w.heap.size := (Array.getElem?_eq_some_iff.1 h).1

/-- what an iterator owes: it hands on xs, one by one, as Rv says; S: the old blocks that the rounds may turn -/
def IterOK {α : Type} (F : Fence) (n : Nat) (P : Program) (gf : Nat) (lb : Array Value) (xs : List α) (Rv : α → Array Value → World → World → Prop) (S : Nat → Prop) (w0 : World) : Prop :=
  ∀ (l : Nat) (J Jx : Nat → World → Prop) (W : World), w0.heap.size ≤ l →
    (∀ k W, J k W → Keeps S w0 W) → (∀ k W, J k W → w0.heap.size + 1 < W.heap.size) → (∀ k W W', J k W → Ext W W' → J k W') → (∀ k W W', Jx k W → Ext W W' → Jx k W') →
    (∀ k (hk : k < xs.length) v W2 W1, J k W2 → Ext W2 W1 → Rv xs[k] v W2 W1 → YieldAt F (n - 1) P l v W1 fun e W' =>
      (e = .returned (.bool true) ∧ J (k + 1) W') ∨ (e = .returned (.bool false) ∧ Jx (k + 1) W')) →
    J 0 W → CallsIn F n P gf (#[.func (.yield l) #[] #[]] ++ lb) W fun e W' => (∃ v, e = .returned v) ∧ (J xs.length W' ∨ ∃ k, k < xs.length ∧ Jx (k + 1) W')

/-- the blocks that a round may turn: old ones of S, and those laid since the loop began -/
def RB (S : Nat → Prop) (n : Nat) : Nat → Prop := fun b => (b < n ∧ S b) ∨ n + 2 ≤ b

def roundEnd (S : Nat → Prop) (n : Nat) (I : Nat → World → Prop) (Ix : Code → Nat → World → Prop) (k : Nat) (W : World) : Exit → Act → World → Prop
  | .normal, _, W' => Keeps (RB S n) W W' ∧ I k W'
  | .ret, _, W' => Keeps (RB S n) W W' ∧ Ix .ret k W'
  | .exit id, _, W' => Keeps (RB S n) W W' ∧ Ix (.exit id) k W'
  | .goto t, _, W' => Keeps (RB S n) W W' ∧ Ix (.goto t) k W'
  | .panic _, _, _ => False
  | .outgrown, _, _ => False

section
variable {F : Fence} {n : Nat} {P : Program}
theorem wpIn_range {α : Type} {g : Operand} {ps : Array Tmp} {assign body : Code} {Q : Exit → Act → World → Prop} {a : Act} {w : World}
    (hro : F.round = none) (h1 : 1 ≤ n) {gf : Nat} {lb : Array Value} (hg : a.eval g = .func (.func gf) #[] lb) (hFg : F.fn gf) (eg : ∀ args w, (callFunc gf args).run P w = .ok (.enter gf args) w)
    {xs : List α} {Rv : α → Array Value → World → World → Prop} {S : Nat → Prop} (hiter : IterOK F (n - 1) P gf lb xs Rv S w) (hps : ∀ x v W0 W, Rv x v W0 W → v.size = ps.size)
    (I : Nat → World → Prop) (Ix : Code → Nat → World → Prop) (hIk : ∀ k W, I k W → Keeps S w W)
    (hI : ∀ k W W', I k W → Keeps (OneB (w.heap.size + 1)) W W' → I k W') (hIx : ∀ c k W W', Ix c k W → Keeps (OneB (w.heap.size + 1)) W W' → Ix c k W') (h0 : I 0 w)
    (hround : ∀ k (hk : k < xs.length) v W0 W, I k W0 → Ext W0 W → I k W → Rv xs[k] v W0 W → w.heap.size + 1 < W0.heap.size → w.heap.size + 1 < W.heap.size →
      assign.wpIn (F.inRound (w.heap.size + 1)) (n - 1 - 1) P (Exit.then (fun a' W' => Keeps (RB S w.heap.size) W W' ∧
        ∀ W2, Keeps (OneB (w.heap.size + 1)) W' W2 → body.wpIn (F.inRound (w.heap.size + 1)) (n - 1 - 1) P (roundEnd S w.heap.size I Ix (k + 1) W2) a' W2) (fun _ _ _ => False))
        { tmps := (ps.zip v).foldl (fun t (p, v) => t.setIfInBounds p v) a.tmps, defers := [] } W)
    (hdone : ∀ W, I xs.length W → Mark W w.heap.size → Q .normal { a with defers := markOf w.heap.size :: a.defers } W)
    (hstop : ∀ c k W, k < xs.length → Ix c (k + 1) W → Mark W w.heap.size → c.wpIn F n P Q { a with defers := markOf w.heap.size :: a.defers } W) :
    (Code.rangeFunc g ps assign body).wpIn F n P Q a w := by
  refine wpIn_rangeFunc ?_
  intro fn hfn
  rw [hro]
  obtain ⟨rec, hrec⟩ : ∃ rec : LoopState → Option Code → Loop, rec = fun st pe => { state := st, pending := pe, fn, tmps := a.tmps, params := ps, assign, body, defers := w.heap.size } := ⟨_, rfl⟩
  obtain ⟨W1, hW1⟩ : ∃ W1, (w.alloc (.deferred (some []))).alloc (.loop (rec .ready none)) = W1 := ⟨_, rfl⟩
  have hL1 : W1.heap[w.heap.size + 1]? = some (.loop (rec .ready none)) := by
    rw [← hW1]; have := World.alloc_heap_new (w.alloc (.deferred (some []))) (.loop (rec .ready none)); rwa [World.size_alloc] at this
  have hK1 : Mark W1 w.heap.size := by
    rw [← hW1]; exact (Below.heap_alloc _ _ _ (by simp)).trans (World.alloc_heap_new w _)
  have hE1 : Ext w W1 := by rw [← hW1]; exact ((Keeps.refl _ w).alloc _).alloc _
  have hI1 : I 0 W1 := hI 0 w W1 h0 (Ext.keeps hE1)
  have hDL : ¬ OneB (w.heap.size + 1) w.heap.size := by unfold OneB; omega
  have put1 : ∀ (W : World) (o : Obj), Keeps (OneB (w.heap.size + 1)) W (W.putObj (w.heap.size + 1) o) := fun W o => (Keeps.refl _ W).putObj _ o (.inl rfl)
  have nL : ¬ RB S w.heap.size (w.heap.size + 1) := by unfold RB; omega
  have nD : ¬ RB S w.heap.size w.heap.size := by unfold RB; omega
  refine ⟨w.heap.size + 1, [markOf w.heap.size], W1, { target := .fn (.func gf) lb, args := #[.func (.yield (w.heap.size + 1)) #[] #[]] }, W1, gf,
    #[.func (.yield (w.heap.size + 1)) #[] #[]] ++ lb, W1, ?_, ?_, ?_, ?_, fun _ => h1, ?_⟩
  · rw [← hW1, hrec]; exact run_enterLoop_outer _ _ _ _ _
  · simp only [resolve, hg]
    simp [go_sem]
  · intro f' hf'; simp [Target.leads] at hf'; subst hf'; exact hFg
  · simp [invoke, go_sem, eg]
  · refine (hiter (w.heap.size + 1)
      (fun k W => I k W ∧ W.heap[w.heap.size + 1]? = some (.loop (rec .ready none)) ∧ Mark W w.heap.size)
      (fun k W => ∃ c, Ix c k W ∧ W.heap[w.heap.size + 1]? = some (.loop (rec .done (some c))) ∧ Mark W w.heap.size)
      W1 (by omega) (fun k W h => hIk k W h.1) (fun k W h => (Array.getElem?_eq_some_iff.1 h.2.1).1)
      (fun k W W' h he => ⟨hI k W W' h.1 (Ext.keeps he), (he.block _ (Array.getElem?_eq_some_iff.1 h.2.1).1 (noB _)).trans h.2.1, h.2.2.keeps he (noB _)⟩)
      (fun k W W' h he => by
        obtain ⟨c, h1, h2, h3⟩ := h
        exact ⟨c, hIx c k W W' h1 (Ext.keeps he), (he.block _ (Array.getElem?_eq_some_iff.1 h2).1 (noB _)).trans h2, h3.keeps he (noB _)⟩)
      ?_ ⟨hI1, hL1, hK1⟩).mono ?_
    · rintro k hk v W0 W ⟨hi0, hl0, hm0⟩ hE0 hv
      have hi : I k W := hI k W0 W hi0 (Ext.keeps hE0)
      have hlt0 : w.heap.size + 1 < W0.heap.size := (Array.getElem?_eq_some_iff.1 hl0).1
      have hl := (hE0.block _ hlt0 (noB _)).trans hl0
      have hm : Mark W w.heap.size := hm0.keeps hE0 (noB _)
      have hlt : w.heap.size + 1 < W.heap.size := (Array.getElem?_eq_some_iff.1 hl).1
      have hy := run_yield (P := P) (args := v) hl (by rw [hrec]; exact hps _ _ _ _ hv)
      rw [hrec] at hy
      refine ⟨fn, _, assign, body, hy, roundIn_of_wpIn hfn (wpIn_mono (hround k hk v W0 W hi0 hE0 hi hv hlt0 hlt) ?_)⟩
      rintro e a' Wa hp
      cases e with
      | normal =>
        obtain ⟨hka, hbody⟩ := hp
        have hla : Wa.heap[w.heap.size + 1]? = some (.loop (rec .ready none)) := (hka.block _ hlt nL).trans hl
        have hma : Mark Wa w.heap.size := hm.keeps hka nD
        have hlta : w.heap.size + 1 < Wa.heap.size := (Array.getElem?_eq_some_iff.1 hla).1
        refine ⟨_, run_beginRound hla (by rw [hrec]), ?_⟩
        have hl2 : (Wa.putObj (w.heap.size + 1) (.loop { rec .ready none with state := .busy })).heap[w.heap.size + 1]? = some (.loop { rec .ready none with state := .busy }) := World.putObj_heap_same hlta
        have hm2 : Mark (Wa.putObj (w.heap.size + 1) (.loop { rec .ready none with state := .busy })) w.heap.size := hma.keeps (put1 _ _) hDL
        refine wpIn_mono (hbody _ (put1 _ _)) ?_
        have fin : ∀ (jump : Option Code) (W3 : World), Keeps (RB S w.heap.size) (Wa.putObj (w.heap.size + 1) (.loop { rec .ready none with state := .busy })) W3 →
            (Instr.endRound (w.heap.size + 1) jump).run P W3 = .ok (.bool jump.isNone) (W3.putObj (w.heap.size + 1) (.loop (rec (if jump.isNone then .ready else .done) jump))) ∧
            (W3.putObj (w.heap.size + 1) (.loop (rec (if jump.isNone then .ready else .done) jump))).heap[w.heap.size + 1]? = some (.loop (rec (if jump.isNone then .ready else .done) jump)) ∧
            Mark (W3.putObj (w.heap.size + 1) (.loop (rec (if jump.isNone then .ready else .done) jump))) w.heap.size := fun jump W3 hk3 => by
          have hl3 := (hk3.block _ (Array.getElem?_eq_some_iff.1 hl2).1 nL).trans hl2
          have := run_endRound (P := P) jump hl3
          rw [hrec] at this ⊢
          exact ⟨this, World.putObj_heap_same (Array.getElem?_eq_some_iff.1 hl3).1, (hm2.keeps hk3 nD).keeps (put1 _ _) hDL⟩
        rintro e a3 W3 hp
        cases e with
        | normal =>
          obtain ⟨hk3, hi3⟩ := hp
          obtain ⟨hr, hl4, hm4⟩ := fin none W3 hk3
          exact ⟨_, _, hr, .inl ⟨rfl, hI _ _ _ hi3 (put1 _ _), hl4, hm4⟩⟩
        | ret =>
          obtain ⟨hk3, hi3⟩ := hp
          obtain ⟨hr, hl4, hm4⟩ := fin (some .ret) W3 hk3
          exact ⟨_, _, hr, .inr ⟨rfl, .ret, hIx _ _ _ _ hi3 (put1 _ _), hl4, hm4⟩⟩
        | exit id =>
          obtain ⟨hk3, hi3⟩ := hp
          obtain ⟨hr, hl4, hm4⟩ := fin (some (.exit id)) W3 hk3
          exact ⟨_, _, hr, .inr ⟨rfl, .exit id, hIx _ _ _ _ hi3 (put1 _ _), hl4, hm4⟩⟩
        | goto t =>
          obtain ⟨hk3, hi3⟩ := hp
          obtain ⟨hr, hl4, hm4⟩ := fin (some (.goto t)) W3 hk3
          exact ⟨_, _, hr, .inr ⟨rfl, .goto t, hIx _ _ _ _ hi3 (put1 _ _), hl4, hm4⟩⟩
        | panic ch => exact hp.elim
        | outgrown => exact hp.elim
      | ret => exact hp.elim
      | exit id => exact hp.elim
      | goto t => exact hp.elim
      | panic ch => exact hp.elim
      | outgrown => exact hp.elim
    · rintro e W2 ⟨⟨v, rfl⟩, (⟨hi, hl, hm⟩ | ⟨k, hk, c, hi, hl, hm⟩)⟩
      · exact ⟨none, _, by have := run_endLoop (P := P) hl (by rw [hrec]; simp); rw [hrec] at this; exact this, hdone _ (hI _ _ _ hi (put1 _ _)) (hm.keeps (put1 _ _) hDL)⟩
      · exact ⟨some c, _, by have := run_endLoop (P := P) hl (by rw [hrec]; simp); rw [hrec] at this; exact this, hstop c k _ hk (hIx _ _ _ _ hi (put1 _ _)) (hm.keeps (put1 _ _) hDL)⟩

/-- the end of a function behind such loops: the marks are taken over, one by one -/
theorem leaves_marks {fn : Func} {tmps : Array Value} {R : Ending → World → Prop} : ∀ (Ds : List Nat) (w : World), Ds.Nodup → (∀ D, D ∈ Ds → Mark w D) →
    (∀ w', Keeps (fun b => b ∈ Ds) w w' → ∃ v, (results fn tmps).run P w' = .ok v w' ∧ R (.returned v) w') → LeavesInM F n P fn tmps R (Ds.map markOf) .returning w
  | [], w, _, _, h => by
    obtain ⟨v, h1, h2⟩ := h w (Keeps.refl _ _)
    exact ⟨v, h1, h2⟩
  | D :: Ds, w, hn, hm, h => by
    have hD := hm D (by simp)
    refine ⟨by simp, .inl ⟨D, _, rfl, run_takeDeferred hD, ?_⟩⟩
    have hp : Keeps (OneB D) w (w.putObj D (.deferred none)) := (Keeps.refl _ w).putObj _ _ (.inl rfl)
    have hnd := List.nodup_cons.1 hn
    refine leaves_marks Ds _ hnd.2 (fun E hE => (hm E (by simp [hE])).keeps hp (fun e => hnd.1 (by rw [← show E = D from e]; exact hE))) ?_
    intro w' hk
    exact h w' ((hp.mono (T := fun b => b ∈ D :: Ds) fun k _ hk => by rw [show k = D from hk]; simp).then hk fun i _ hi => by simp [hi])
end

/-! ### regions within a round, and in the wide fence, by the plain walk -/
section
variable {P : Program} {Q : Exit → Act → World → Prop} {n : Nat}
def noDefer (l : List Oper) : Bool := l.all fun o => match o.op with | .defer _ => false | _ => true
theorem noDefer_spec {l : List Oper} (h : noDefer l = true) {o : Oper} (ho : o ∈ l) : ∀ c, o.op ≠ .defer c := by
  intro c hc
  have := List.all_eq_true.1 h o ho
  rw [hc] at this
  cases this
theorem calls_inRound {r : Nat} {f : FuncId} {args : Array Value} {w : World} {R : Ending → World → Prop} (h : Calls P f args w R) : CallsIn (Fence.wide.inRound r) n P f args w R :=
  CallsIn.inRound r (callsIn_wide.2 h)
theorem rows_inRound {r : Nat} {row : String} {args : Array Value} {w : World} {R : Value → World → Prop} (h : Rows P row args w R) : RowsIn (Fence.wide.inRound r) n P row args w R :=
  fun c cs _ => let ⟨v, w', h1, h2⟩ := h c cs; ⟨v, w', h1, stepsIn_wide.2 h2⟩
theorem wpIn_of_wp {o : Oper} {r : Nat} {a : Act} {w : World} {K : Act → World → Prop} (hd : ∀ c, o.op ≠ .defer c) (h : o.wp P a w K Q) : o.wpIn (Fence.wide.inRound r) n P a w K Q := by
  refine ⟨fun _ _ => trivial, ?_⟩
  rw [Oper.semAt_plain _ _ _ hd]
  unfold Oper.wp at h
  generalize (execOp a.eval o).run P w = q at *
  cases q with
  | ok x w' =>
    cases x <;> simp only [Oper.upon] at h <;> simp only [Oper.uponIn]
    case value u => exact h
    case skip => exact h
    case defer d => exact h
    case enter f args => exact ⟨fun h => by simp [Fence.wide] at h, calls_inRound h⟩
    case row row args => exact ⟨fun h => by simp [Fence.wide] at h, rows_inRound h⟩
  | halt x w' =>
    cases x <;> simp only [Oper.upon] at h <;> simp only [Oper.uponIn]
    case panic u => exact h
theorem opsIn_of_ops {l : List Oper} {r : Nat} (hd : noDefer l = true) (hout : ¬ LetsOut Q) : ∀ (is : List Nat) (a : Act) (w : World), wpOps P l.toArray Q is a w → wpOpsIn (Fence.wide.inRound r) n P l.toArray Q is a w
  | [], _, _, h => h
  | i :: is, a, w, h => by
    simp only [wpOps] at h
    simp only [wpOpsIn]
    cases ho : l.toArray[i]? with
    | none => simp only [ho] at h ⊢; exact opsIn_of_ops hd hout is a w h
    | some o =>
      simp only [ho] at h ⊢
      have hm : o ∈ l := by
        have := Array.mem_of_getElem? ho
        simpa using this
      split
      · rename_i hw
        rw [if_pos hw] at h
        rcases h with h | h
        · exact Oper.wpIn_mono (fun a w h => opsIn_of_ops hd hout is a w h) (wpIn_of_wp (noDefer_spec hd hm) h)
        · exact (hout h.2).elim
      · rename_i hw
        rw [if_neg hw] at h
        exact ⟨fun _ _ => trivial, opsIn_of_ops hd hout is _ w h⟩
theorem wpIn_region_flat {id r : Nat} {a : Act} {w : World} {l : List Oper} (hd : noDefer l = true) (hout : ¬ LetsOut Q) (h : wpList P l.toArray Q l a w) : (Code.region id l.toArray false).wpIn (Fence.wide.inRound r) n P Q a w := by
  refine wpIn_region (opsIn_of_ops hd hout _ _ _ ?_)
  rw [List.range_eq_range', ← Array.length_toList, wpOps_eq_wpList _ 0 (by simp)]
  exact h
theorem wpIn_region_plan {id r : Nat} {a : Act} {w : World} {l : List Oper} (pl : List (Nat × Nat)) (ls es tl : List Nat) (C : World → Prop) (hd : noDefer l = true) (hout : ¬ LetsOut Q) (hm : P.follows .mixedOrders = true) (hs : Region.noSelect l.toArray = true)
    (hp : planOK .any l.toArray ls es tl (Array.replicate l.toArray.size false) pl = true) (hl : pl.length + tl.length = l.toArray.size) (hmap : tl.map (l.toArray[·]?) = (tailL l.toArray tl).map some) (hC : C w.drew)
    (hQ : ∀ c a w d v, Q (.panic c) (Act.put a d v) w → Q (.panic c) a w)
    (h : Pl P l.toArray Q C (wpList P l.toArray Q (tailL l.toArray tl)) (planL l.toArray pl) a w.drew) : (Code.region id l.toArray true).wpIn (Fence.wide.inRound r) n P Q a w := by
  refine wpIn_region_draw fun t => opsIn_of_ops hd hout _ _ _ ?_
  have ha : wpAny P .any l.toArray Q l.toArray.size (Array.replicate l.toArray.size false) a w.drew := by
    refine wpAny_of_T (C := C) (ls := ls) _ _ _ _ (plan_sound hs (fun c a w o v _ => hQ c a w o.dst v) tl _ hmap pl _ _ a _ hp hl ?_ hC h.out)
    intro j o ho hj
    exfalso
    revert hj
    rw [Array.getD_eq_getD_getElem?, Array.getElem?_replicate]
    split <;> simp
  simp only [Region.schedule, hm, Bool.true_or, if_true]
  exact wpAny_sound _ _ _ _ _ ha
end
theorem wpIn_scope {P : Program} {Q : Exit → Act → World → Prop} {n : Nat} {c : Code} {a : Act} {w : World} (h : c.wpIn Fence.wide n P (Exit.noGoto Q) a w) : (Code.scope c).wpIn Fence.wide n P Q a w :=
  wpIn_wide.2 (wp_scope_straight (wpIn_wide.1 h))
end Go.Proofs.YtcfgnbbiljohjaaGreatDoor
end
section
/- A range over a function whose rounds leave it by one break alone: both ways meet behind it. No program is named here. -/
set_option linter.unusedVariables false
set_option linter.unusedSimpArgs false
namespace Go.Proofs.YtcfgnbbiljohjaaGreatDoor
open Go.RowKit
theorem Mark.ext {w w' : World} {D : Nat} (h : Mark w D) (hk : Ext w w') : Mark w' D := h.keeps hk (noB _)
section
variable {F : Fence} {n : Nat} {P : Program}
theorem wpIn_range_break {α : Type} {g : Operand} {ps : Array Tmp} {assign body : Code} {Q : Exit → Act → World → Prop} {a : Act} {w : World} {id : Nat}
    (hro : F.round = none) (h1 : 1 ≤ n) {gf : Nat} {lb : Array Value} (hg : a.eval g = .func (.func gf) #[] lb) (hFg : F.fn gf) (eg : ∀ args w, (callFunc gf args).run P w = .ok (.enter gf args) w)
    {xs : List α} {Rv : α → Array Value → World → World → Prop} {S : Nat → Prop} (hiter : IterOK F (n - 1) P gf lb xs Rv S w) (hps : ∀ x v W0 W, Rv x v W0 W → v.size = ps.size)
    (I : Nat → World → Prop) (Ix : Nat → World → Prop) (hIk : ∀ k W, I k W → Keeps S w W)
    (hI : ∀ k W W', I k W → Keeps (OneB (w.heap.size + 1)) W W' → I k W') (hIx : ∀ k W W', Ix k W → Keeps (OneB (w.heap.size + 1)) W W' → Ix k W') (h0 : I 0 w)
    (hround : ∀ k (hk : k < xs.length) v W0 W, I k W0 → Ext W0 W → I k W → Rv xs[k] v W0 W → w.heap.size + 1 < W0.heap.size → w.heap.size + 1 < W.heap.size →
      assign.wpIn (F.inRound (w.heap.size + 1)) (n - 1 - 1) P (Exit.then (fun a' W' => Keeps (RB S w.heap.size) W W' ∧
        ∀ W2, Keeps (OneB (w.heap.size + 1)) W' W2 → body.wpIn (F.inRound (w.heap.size + 1)) (n - 1 - 1) P (roundEnd S w.heap.size I (fun c k W => c = .exit id ∧ Ix k W) (k + 1) W2) a' W2) (fun _ _ _ => False))
        { tmps := (ps.zip v).foldl (fun t (p, v) => t.setIfInBounds p v) a.tmps, defers := [] } W)
    (hend : ∀ W, (I xs.length W ∨ ∃ k, k < xs.length ∧ Ix (k + 1) W) → Mark W w.heap.size → Exit.inBlock id Q .normal { a with defers := markOf w.heap.size :: a.defers } W) :
    (Code.rangeFunc g ps assign body).wpIn F n P (Exit.inBlock id Q) a w :=
  wpIn_range hro h1 hg hFg eg hiter hps I (fun c k W => c = .exit id ∧ Ix k W) hIk hI (fun c k W W' h hk => ⟨h.1, hIx k W W' h.2 hk⟩) h0 hround
    (fun W h hm => hend W (.inl h) hm)
    (fun c k W hk h hm => by
      obtain ⟨rfl, h⟩ := h
      refine wpIn_exit ?_
      have := hend W (.inr ⟨k, hk, h⟩) hm
      simpa [Exit.inBlock] using this)
end
end Go.Proofs.YtcfgnbbiljohjaaGreatDoor
end
section
/- From 'it returns true, and of what was there nothing turned' to what a statement promises of a call. Condition: the arguments read as before. -/
set_option linter.unusedVariables false
set_option linter.unusedSimpArgs false
set_option maxRecDepth 100000
namespace Go.Proofs.YtcfgnbbiljohjaaGreatDoor
open Go.RowKit Go.ChangeShapes Go.WideShapes Go.ChangeAt

theorem post_true {H : Type} {enc : TypeId × Value → H} {f : Func} {s : ChangeSpec} {fresh handsOn : Bool} {W W' : World} {args : Array Value} {ds gs : List (DataW H)} {before pa pv : List MemPlace}
    (hE : Ext W W') (hrt : f.resultTypes = #[4]) (hf : (s.fn H (ds ++ gs)).results = [.lit (.bool true)])
    (hW : DataW.Whole enc Tryz.prog f.params.toList s.vars false W args.toList ds gs before)
    (hargs : ∀ sp : Nat → Bool, (∀ p ∈ before, sp p.block = true) → DataW.TrodAll enc Tryz.prog W' 0 sp true f.params.toList args.toList (s.fn H (ds ++ gs)).args pa)
    (hvars : ∀ sp : Nat → Bool, (∀ p ∈ before, sp p.block = true) → DataW.TrodVars enc Tryz.prog W' sp s.vars (s.fn H (ds ++ gs)).vars pv) (hps : before = pa ++ pv) :
    s.post enc Tryz.prog f false fresh handsOn false W args (.bool true) W' := by
  have hold : ∀ p ∈ before, (fun b => decide (b < W.heap.size)) p.block = true := fun p hp => by simpa using hW.lt p hp
  have hres : ∀ b sp hd, DataW.TrodAll enc Tryz.prog W' b sp hd f.resultTypes.toList ((Value.bool true).resultList f.resultTypes.size) (s.fn H (ds ++ gs)).results [] := by
    intro b sp hd
    rw [hf, hrt]
    exact trodAll_cons_mk (shut_bool Tryz.underlying4 _) trodAll_mk0
  have hk : W.keptBut W' (fun _ => False) := hE.below.frame _
  have hlt := hW.lt
  refine ⟨ds, gs, before, [], pa, pv, hW, hres _ _ _, hargs _ hold, hvars _ hold, World.keptBut_mono (fun _ h => h.elim) hk, fun _ => ?_⟩
  obtain ⟨_, _, _, _, _, hz, hn⟩ := hW
  refine ⟨?_, _, _, ([] ++ pa) ++ pv, ⟨[] ++ pa, pv, trodAll_append (hargs _ fun _ _ => rfl) (hres _ _ _), hvars _ fun _ _ => rfl, rfl, ?_, fun h => ?_⟩, ?_⟩
  · exact ok_one hrt rfl (okWide_bool_mk Tryz.underlying4 _)
  · intro b off hp
    have hp' : MemPlace.cell b off ∈ before := by rw [hps]; simpa using hp
    rw [Keeps.frozen hE (noB b) (hlt _ hp')]
    exact hz b off hp'
  · have := hn h
    rw [hps] at this
    simpa using this
  · intro p hp _
    rw [hps]
    simpa using hp
end Go.Proofs.YtcfgnbbiljohjaaGreatDoor
end
section
/- A slice that the call owns from any offset on ('Win'): append onto it, and what is cut off it. Conditions: it lies as 'Win' says. -/
set_option linter.unusedVariables false
set_option linter.unusedSimpArgs false
namespace Go.Proofs.YtcfgnbbiljohjaaGreatDoor
open Go.RowKit

/-- the value is a slice of n elements, of sz cells each, that hold cs; all up to its capacity may be written; its block is base or above -/
def Win (w : World) (base sz : Nat) (v : Value) (n : Nat) (cs : List Value) : Prop :=
  cs.length = n * sz ∧ ((v = .slice none 0 0 ∧ n = 0) ∨
    ∃ g o cap, v = .slice (some ⟨g, o, none⟩) n cap ∧ base ≤ g ∧ n ≤ cap ∧ cap ≤ maxLen ∧ g < w.heap.size ∧ w.there g o (cap * sz) ∧ w.rangeAt g o cs)

/-- the block of a slice -/
def Own (v : Value) : Nat → Prop := fun k => v.ownBlock = some k
theorem Win.nil (w : World) (base sz : Nat) : Win w base sz (.slice none 0 0) 0 [] := ⟨by simp, .inl ⟨rfl, rfl⟩⟩
section
variable {w w' : World} {S : Nat → Prop} {base sz n : Nat} {v : Value} {cs : List Value}
theorem Win.keeps (h : Win w base sz v n cs) (hk : Keeps S w w') (hb : ∀ g, v.ownBlock = some g → ¬ S g) : Win w' base sz v n cs := by
  obtain ⟨h0, h | ⟨g, o, cap, rfl, h1, h2, h3, h4, h5, h6⟩⟩ := h
  · exact ⟨h0, .inl h⟩
  · have hg := hb g rfl
    have hc : ∀ a : Addr, a.block = g → w'.cell? a = w.cell? a := fun a ha => World.cell?_of_block (by rw [ha]; exact hk.block g h4 hg)
    have hf : ∀ a : Addr, a.block = g → w'.frozen? a = w.frozen? a := fun a ha => World.frozen?_of_block (by rw [ha]; exact hk.block g h4 hg)
    exact ⟨h0, .inr ⟨g, o, cap, rfl, h1, h2, h3, Nat.lt_of_lt_of_le h4 hk.size, fun j hj => ⟨by rw [hc _ rfl]; exact (h5 j hj).1, by rw [hf _ rfl]; exact (h5 j hj).2⟩, fun j u hu => by rw [hc _ rfl]; exact h6 j u hu⟩⟩
theorem Win.ext (h : Win w base sz v n cs) (hk : Ext w w') : Win w' base sz v n cs := h.keeps hk fun _ _ => noB _
theorem Win.len (h : Win w base sz v n cs) : ∃ a c, v = .slice a n c := by
  rcases h.2 with ⟨rfl, rfl⟩ | ⟨g, o, cap, rfl, _⟩
  · exact ⟨_, _, rfl⟩
  · exact ⟨_, _, rfl⟩
theorem Win.form (h : Win w base sz v n cs) (hn : 0 < n) : ∃ g o cap, v = .slice (some ⟨g, o, none⟩) n cap ∧ base ≤ g ∧ g < w.heap.size ∧ n ≤ cap ∧ w.rangeAt g o cs := by
  rcases h.2 with ⟨_, h0⟩ | ⟨g, o, cap, h1, h2, h3, h4, h5, h6, h7⟩
  · omega
  · exact ⟨g, o, cap, h1, h2, h5, h3, h7⟩
theorem Win.block (h : Win w base sz v n cs) : ∀ g, v.ownBlock = some g → base ≤ g ∧ g < w.heap.size := by
  intro g hg
  rcases h.2 with ⟨rfl, _⟩ | ⟨g', o, cap, rfl, h2, h3, h4, h5, h6, h7⟩
  · cases hg
  · cases hg; exact ⟨h2, h5⟩
theorem Win.mono {base' : Nat} (h : Win w base sz v n cs) (hb : base' ≤ base) : Win w base' sz v n cs := by
  obtain ⟨h0, h | ⟨g, o, cap, h1, h2, h3⟩⟩ := h
  · exact ⟨h0, .inl h⟩
  · exact ⟨h0, .inr ⟨g, o, cap, h1, by omega, h3⟩⟩
/-- without the first i elements -/
theorem Win.drop {g o cap : Nat} (h : Win w base sz (.slice (some ⟨g, o, none⟩) n cap) n cs) (i : Nat) (hi : i ≤ n) : Win w base sz (.slice (some ⟨g, o + i * sz, none⟩) (n - i) (cap - i)) (n - i) (cs.drop (i * sz)) := by
  obtain ⟨h0, ⟨h, _⟩ | ⟨g', o', cap', h, h1, h2, h3, h4, h5, h6⟩⟩ := h
  · cases h
  · cases h
    have e1 : (cap - i) * sz = cap * sz - i * sz := Nat.sub_mul _ _ _
    have e2 : i * sz ≤ cap * sz := Nat.mul_le_mul_right _ (by omega)
    refine ⟨by rw [List.length_drop, h0, Nat.sub_mul], .inr ⟨g, o + i * sz, _, rfl, h1, by omega, by omega, h4, fun j hj => ?_, fun j u hu => ?_⟩⟩
    · rw [show o + i * sz + j = o + (i * sz + j) by omega]
      exact h5 _ (by omega)
    · rw [show o + i * sz + j = o + (i * sz + j) by omega]
      exact h6 _ _ (by rwa [List.getElem?_drop] at hu)
/-- .. as the model writes it: at the capacity the address stays -/
theorem Win.drop' {g o cap : Nat} (h : Win w base sz (.slice (some ⟨g, o, none⟩) n cap) n cs) (i : Nat) (hi : i ≤ n) : Win w base sz (.slice (if cap = i then some ⟨g, o, none⟩ else some ⟨g, o + i * sz, none⟩) (n - i) (cap - i)) (n - i) (cs.drop (i * sz)) := by
  by_cases hc : cap = i
  · rw [if_pos hc]
    have hd := h.drop i hi
    obtain ⟨h0, ⟨h, _⟩ | ⟨g', o', cap', h, h1, h2, h3, h4, h5, h6⟩⟩ := h
    · cases h
    · cases h
      obtain rfl : n = i := by omega
      subst hc
      simp only [Nat.sub_self] at hd ⊢
      refine ⟨hd.1, .inr ⟨g, o, 0, rfl, h1, Nat.le_refl _, Nat.zero_le _, h4, fun j hj => by omega, fun j u hu => ?_⟩⟩
      have := hd.1
      rw [Nat.zero_mul] at this
      rw [List.eq_nil_of_length_eq_zero this] at hu
      cases hu
  · rw [if_neg hc]; exact h.drop i hi
theorem ownBlock_ite {c : Prop} [Decidable c] {g o o' n m : Nat} : Value.ownBlock (.slice (if c then some ⟨g, o, none⟩ else some ⟨g, o', none⟩) n m) = some g := by
  split <;> rfl
end

theorem rangeAt_append {w : World} {b o : Nat} {xs ys : List Value} (h1 : w.rangeAt b o xs) (h2 : w.rangeAt b (o + xs.length) ys) : w.rangeAt b o (xs ++ ys) := by
  intro j u hu
  by_cases hj : j < xs.length
  · rw [List.getElem?_append_left hj] at hu
    exact h1 j u hu
  · rw [List.getElem?_append_right (by omega)] at hu
    have := h2 _ u hu
    rwa [show o + xs.length + (j - xs.length) = o + j by omega] at this

theorem heap_block_setCells (b : Nat) : ∀ (vs : List Value) (o : Nat) (w : World), (w.setCells b o vs).heap.size = w.heap.size ∧ (w.setCells b o vs).os = w.os ∧ (w.setCells b o vs).tape = w.tape ∧ (w.setCells b o vs).output = w.output ∧ ∀ i, i ≠ b → (w.setCells b o vs).heap[i]? = w.heap[i]?
  | [], _, _ => ⟨rfl, rfl, rfl, rfl, fun _ _ => rfl⟩
  | v :: vs, o, w => by
    obtain ⟨h1, h2, h3, h4, h5⟩ := heap_block_setCells b vs (o + 1) (w.setCell ⟨b, o, none⟩ v)
    rw [World.setCells]
    exact ⟨h1.trans (by simp [World.setCell]), h2, h3, h4, fun i hi => (h5 i hi).trans (Below.heap_setCell w _ v i (by exact fun e => hi e))⟩
theorem Keeps.setCells {S : Nat → Prop} {w w1 : World} (h : Keeps S w w1) (b o : Nat) (vs : List Value) (hp : S b ∨ w.heap.size ≤ b) : Keeps S w (w1.setCells b o vs) := by
  obtain ⟨h1, h2, h3, h4, h5⟩ := heap_block_setCells b vs o w1
  refine ⟨h2.trans h.os, h3.trans h.tape, h4.trans h.output, by rw [h1]; exact h.size, fun i hi hs => (h5 i ?_).trans (h.block i hi hs)⟩
  rintro rfl
  rcases hp with hp | hp
  · exact hs hp
  · omega

/-- append onto it -/
theorem run_append_win {P : Program} (w : World) (base : Nat) (t tx ty e : TypeId) (i : TypeInfo) (z : Value) (sz bytes : Nat) (ht : P.underlying t = some (.slice e)) (hi : P.info? e = some i) (hz : i.zero = some z)
    (hsize : i.size = sz) (hby : i.bytes = bytes) (hzs : z.cells.size = sz) (v : Value) (n : Nat) (cs : List Value) (hown : Win w base sz v n cs)
    (x : Value) (m : Nat) (news : List Value) (hs : Src P sz tx x m news w) (h63 : n + m ≤ maxLen) (hbytes : (n + m) * bytes ≤ 140737488355328) (hbase : base ≤ w.heap.size) :
    ∃ v' w', (Builtin.append_ #[t, tx] ty #[v, x]).run P w = .ok v' w' ∧ Win w' base sz v' (n + m) (cs ++ news) ∧ Keeps (fun k => v.ownBlock = some k) w w' ∧ (v'.ownBlock = v.ownBlock ∨ v'.ownBlock = some w.heap.size) := by
  subst hsize
  subst hby
  have hnl := hs.newsLen
  have h63' : ((n + m : Nat) : Int) ≤ 9223372036854775807 := by simp only [maxLen] at h63; omega
  have hlen : (cs ++ news).length = (n + m) * i.size := by rw [List.length_append, hown.1, hnl, Nat.add_mul]
  have grown : ∀ (old : Nat), Win (w.drew.alloc (.cells ((cs ++ news).toArray ++ Builtin.zeroCells z.cells (grownCap w (n + m) old e - (n + m))) e)) base i.size
      (.slice (some ⟨w.heap.size, 0, none⟩) (n + m) (grownCap w (n + m) old e)) (n + m) (cs ++ news) := by
    intro old
    have hge := grownCap_ge w (n + m) old e
    have hcm := grownCap_le_maxLen w (n + m) old e h63
    have hnew : (w.drew.alloc (.cells ((cs ++ news).toArray ++ Builtin.zeroCells z.cells (grownCap w (n + m) old e - (n + m))) e)).heap[w.heap.size]? = some (.cells ((cs ++ news).toArray ++ Builtin.zeroCells z.cells (grownCap w (n + m) old e - (n + m))) e (0, 0)) :=
      World.alloc_heap_new w.drew _
    have hsz : ((cs ++ news).toArray ++ Builtin.zeroCells z.cells (grownCap w (n + m) old e - (n + m))).size = grownCap w (n + m) old e * i.size := by
      rw [Array.size_append, size_zeroCells, hzs, List.size_toArray, hlen, ← Nat.add_mul]
      congr 1
      omega
    refine ⟨hlen, .inr ⟨w.heap.size, 0, _, rfl, hbase, hge, hcm, by simp, fun j hj => ⟨?_, ?_⟩, fun j u hu => ?_⟩⟩
    · simp only [World.cell?, hnew, Nat.zero_add]
      rw [Array.getElem?_eq_getElem (by omega)]; rfl
    · simp only [World.frozen?, hnew]; simp
    · simp only [World.cell?, hnew, Nat.zero_add]
      have hj : j < (cs ++ news).length := (List.getElem?_eq_some_iff.1 hu).1
      rw [Array.getElem?_append_left (by simpa using hj)]
      simpa using hu
  have grownK : ∀ (o : Obj) (S : Nat → Prop), Keeps S w (w.drew.alloc o) := fun o S => ((Keeps.refl S w).drew).alloc o
  rcases hown.2 with ⟨rfl, rfl⟩ | ⟨g, o, cap, rfl, hbg, hnc, hcm, hglt, hth, hra⟩
  · have hcs : cs = [] := List.eq_nil_of_length_eq_zero (by simpa using hown.1)
    subst hcs
    by_cases hm : m = 0
    · subst hm
      have hn : news = [] := List.eq_nil_of_length_eq_zero (by simpa using hnl)
      subst hn
      exact ⟨_, _, run_append_nothing w t tx ty e i ht hi none 0 0 (Nat.le_refl _) x hs, hown, Keeps.refl _ _, .inl rfl⟩
    · have hr := run_append_grow_src (P := P) w t tx ty e i z ht hi hz none 0 0 [] (run_firstCells_none w.drew i.size 0 0 0) x m news hs (by omega) h63' (growslice_fits (by omega) hbytes)
      exact ⟨_, _, hr, grown 0, grownK _ _, .inr rfl⟩
  · by_cases hroom : n + m ≤ cap
    · have hle : (n + m) * i.size ≤ cap * i.size := Nat.mul_le_mul_right _ hroom
      rw [Nat.add_mul] at hle
      have hth' : w.there g (o + n * i.size) news.length := fun j hj => by
        have := hth (n * i.size + j) (by omega)
        rwa [← Nat.add_assoc] at this
      have hr := run_append_room_src (P := P) w t tx ty e i ht hi g o n cap x m news hs hroom (fun j hj => (hth' j hj).1) (fun j hj => (hth' j hj).2)
      refine ⟨_, _, hr, ⟨hlen, .inr ⟨g, o, cap, rfl, hbg, hroom, hcm, by rw [(heap_block_setCells g news _ w).1]; exact hglt, World.there_setCells hth _ _ _, ?_⟩⟩, (Keeps.refl _ _).setCells _ _ _ (.inl rfl), .inl rfl⟩
      refine rangeAt_append (World.rangeAt_setCells_apart hra g _ news (.inr (.inl (by rw [hown.1]; omega)))) ?_
      rw [hown.1]
      exact World.rangeAt_setCells_same w g _ news hth'
    · have hold : (Builtin.firstCells i.size n (.slice (some ⟨g, o, none⟩) n cap)).run P w.drew = .ok cs.toArray w.drew :=
        run_firstCells_some w.drew i.size n ⟨g, o, none⟩ n cap cs hown.1 (fun j u hu => by rw [Addr.add_lit]; exact hra j u hu)
      have hr := run_append_grow_src (P := P) w t tx ty e i z ht hi hz (some ⟨g, o, none⟩) n cap cs hold x m news hs (by omega) h63' (growslice_fits (by omega) hbytes)
      exact ⟨_, _, hr, grown cap, grownK _ _, .inr rfl⟩

theorem SrcCells.toSrc {P : Program} {w : World} {x : Value} {m sz : Nat} {news : List Value} {tx e' : TypeId} (h : SrcCells w x m news) (hk : P.underlying tx = some (.slice e')) (hl : news.length = m * sz) (h1 : ∀ u ∈ news, u.oneCell' = true) : Src P sz tx x m news w := by
  rcases h with ⟨rfl, rfl, rfl⟩ | ⟨ad, c, rfl, hc⟩
  · exact Src.ofNil w hk 0
  · exact Src.ofSlice w hk ad m c news hl hc h1
theorem Win.of_owns {w : World} {base : Nat} {e : TypeId} {sz : Nat} {v : Value} {n : Nat} {xs : List Value} (h : w.ownsRow base e sz v n xs) : Win w base sz v n xs := by
  rcases h.2 with ⟨h1, h2⟩ | ⟨g, cap, cur, h1, hb, hg, hnc, hcm, hcs, htake⟩
  · exact ⟨h.1, .inl ⟨h1, h2⟩⟩
  · subst h1
    have hlt := (Array.getElem?_eq_some_iff.1 hg).1
    refine ⟨h.1, .inr ⟨g, 0, cap, rfl, hb, hnc, hcm, hlt, fun j hj => ⟨?_, ?_⟩, fun j u hu => ?_⟩⟩
    · simp only [World.cell?, hg, Nat.zero_add]
      rw [Array.getElem?_eq_getElem (by omega)]; rfl
    · simp [World.frozen?, hg]
    · have := h.cells (g := g) rfl j u hu
      rwa [Addr.add_lit] at this
theorem Win.src {w : World} {base sz n : Nat} {v : Value} {cs : List Value} (h : Win w base sz v n cs) : SrcCells w v n cs := by
  rcases h.2 with ⟨rfl, rfl⟩ | ⟨g, o, cap, rfl, _, _, _, _, _, h6⟩
  · exact .inl ⟨rfl, rfl, List.eq_nil_of_length_eq_zero (by simpa using h.1)⟩
  · exact .inr ⟨_, _, rfl, fun j u hu => by rw [Addr.add_lit]; exact h6 j u hu⟩
end Go.Proofs.YtcfgnbbiljohjaaGreatDoor
end
section
/- An argument as it is read, opened to what lies in memory: readers, type by type. No program's function is named here. -/
set_option linter.unusedVariables false
set_option linter.unusedSimpArgs false
set_option maxRecDepth 100000
namespace Go.Proofs.YtcfgnbbiljohjaaGreatDoor
open Go.RowKit Go.ChangeShapes Go.WideShapes

def Old (w : World) : Nat → Prop := fun k => k < w.heap.size
/-- a reader: whatever reads as data of the type t, its cells are as En says -/
def Rd {H : Type} (enc : TypeId × Value → H) (P : Program) (w : World) (t : TypeId) {α : Type} (En : List Value → α → Prop) : Prop :=
  ∀ (fuel : Nat) (cs : List Value) (x : DataW H × List MemPlace), DataW.trod enc P w 0 (fun _ => true) true fuel t cs = some x → ∃ a : α, En cs a

section
variable {H : Type} {enc : TypeId × Value → H} {P : Program} {w : World}
theorem rd_int {t : TypeId} {k : IntKind} (ht : P.underlying t = some (.int k)) : Rd enc P w t fun cs (n : Int) => cs = [.int k n] ∧ (Lit.int k n).wf = true := fun fuel cs x h =>
  let ⟨n, h1, _, h2⟩ := DataW.trod_int ht h
  ⟨n, h1, h2⟩
theorem rd_bool {t : TypeId} (ht : P.underlying t = some .bool) : Rd enc P w t fun cs (b : Bool) => cs = [.bool b] := fun fuel cs x h =>
  let ⟨n, h1, _⟩ := DataW.trod_bool ht h
  ⟨n, h1⟩
theorem rd_string {t : TypeId} (ht : P.underlying t = some .string) : Rd enc P w t fun cs (l : List UInt8) => cs = [.string (bs l)] ∧ l.length ≤ 9223372036854775807 := fun fuel cs x h => by
  obtain ⟨s, h1, _, h2⟩ := DataW.trod_string ht h
  refine ⟨s.data.toList, by rw [h1, bs_of], ?_⟩
  simp only [maxLen] at h2
  simpa using h2
theorem rd_byte {t : TypeId} (ht : P.underlying t = some (.int .u8)) : Rd enc P w t fun cs (c : UInt8) => cs = [byV c] := fun fuel cs x h => by
  obtain ⟨n, h1, _, h2⟩ := DataW.trod_int ht h
  have hb : 0 ≤ n ∧ n ≤ 255 := by simpa [Lit.wf, IntKind.min, IntKind.max, IntKind.signed, IntKind.bits] using h2
  refine ⟨UInt8.ofNat n.toNat, ?_⟩
  have : (UInt8.ofNat n.toNat).toNat = n.toNat := by simp; omega
  show cs = [Value.int .u8 ((UInt8.ofNat n.toNat).toNat : Int)]
  rw [h1, this, Int.toNat_of_nonneg hb.1]

theorem list_of_each {α : Type} {p : Nat → α → Prop} : ∀ n, (∀ i, i < n → ∃ a, p i a) → ∃ l : List α, l.length = n ∧ ∀ i (h : i < l.length), p i l[i]
  | 0, _ => ⟨[], rfl, fun i h => by simp at h⟩
  | n + 1, h => by
    obtain ⟨l, h1, h2⟩ := list_of_each n fun i hi => h i (by omega)
    obtain ⟨a, ha⟩ := h n (by omega)
    refine ⟨l ++ [a], by simp [h1], fun i hi => ?_⟩
    by_cases hil : i < l.length
    · rw [List.getElem_append_left hil]; exact h2 i hil
    · have : i = n := by simp at hi; omega
      subst this
      rw [List.getElem_append_right (by omega)]
      simpa [h1] using ha

/-- an element of C cells, in memory -/
def AtOf (w : World) {α : Type} (C : Nat) (En : List Value → α → Prop) (b o : Nat) (a : α) : Prop := ∃ cs, En cs a ∧ cs.length = C ∧ ∀ j, j < C → w.cell? ⟨b, o + j, none⟩ = cs[j]?

theorem rd_slice {t e : TypeId} {α : Type} {En : List Value → α → Prop} (C : Nat) (ht : P.underlying t = some (.slice e)) (hC : P.cellsOf e = C) (hC0 : 0 < C) (he : Rd enc P w e En) :
    Rd enc P w t fun cs (l : List α) => ∃ v, cs = [v] ∧ SlV (Old w) (AtOf w C En) C v l ∧ l.length ≤ 9223372036854775807 := fun fuel cs x h => by
  rcases Deep.open_slice ht h with ⟨h0, _⟩ | ⟨a, len, cap, m, n, D, Pl, h0, hb, hl, hm, hmm, hx, hi⟩
  · exact ⟨[], _, h0, SlV.nil, by simp⟩
  · simp only [if_true] at hmm
    subst hmm
    rw [hC] at hi
    have hm' : m ≤ 9223372036854775807 := hm
    by_cases hc0 : m = 0
    · subst hc0
      obtain rfl : len = 0 := by omega
      exact ⟨[], _, h0, .inl ⟨some a, rfl, rfl⟩, by simp⟩
    · obtain ⟨cs0, q1, q2⟩ := hi 0 (by omega)
      obtain ⟨_, q3, q4⟩ := World.cells?_some q1
      have hcell := q4 0 hC0
      have ha : (a.add (0 * C)).add 0 = a := by simp [Addr.add]
      rw [ha] at hcell
      obtain ⟨u, hu⟩ : ∃ u, w.cell? a = some u := ⟨_, by rw [hcell]; exact List.getElem?_eq_getElem (by omega)⟩
      obtain ⟨b, o, sp⟩ := a
      have hsp : sp = none := by
        cases sp with
        | none => rfl
        | some s =>
          exfalso
          simp only [World.cell?] at hu
          split at hu <;> simp at hu
      subst hsp
      have hbl : b < w.heap.size := World.block_lt_of_cell? _ _ hu
      obtain ⟨l, hll, hle⟩ := list_of_each (p := fun i (y : α) => AtOf w C En b (o + i * C) y) len fun i hil => by
        obtain ⟨cs', r1, r2⟩ := hi i (by omega)
        obtain ⟨_, r3, r4⟩ := World.cells?_some r1
        obtain ⟨y, hy⟩ := he _ _ _ r2
        refine ⟨y, cs', hy, r3, fun j hj => ?_⟩
        have := r4 j hj
        rwa [Deep.add_add, Addr.add_lit, ← Nat.add_assoc] at this
      subst hll
      exact ⟨l, _, h0, .inr ⟨b, o, m, rfl, hl, hbl, hle⟩, by omega⟩

theorem rd_bytes {t e : TypeId} (ht : P.underlying t = some (.slice e)) (hC : P.cellsOf e = 1) (he : P.underlying e = some (.int .u8)) :
    Rd enc P w t fun cs (l : List UInt8) => ∃ v, cs = [v] ∧ Bytes w (Old w) v l ∧ l.length ≤ 9223372036854775807 := fun fuel cs x h => by
  obtain ⟨l, v, h1, h2, h3⟩ := rd_slice 1 ht hC (by decide) (rd_byte he) fuel cs x h
  refine ⟨l, v, h1, SlV.mono h2 (fun _ h => h) fun b o c hb ⟨cs', k1, k2, k3⟩ => ?_, h3⟩
  subst k1
  exact k3 0 (by decide)

/-- a field of a struct -/
theorem rd_field {t : TypeId} {fs : Array Field} (ht : P.underlying t = some (.struct fs)) {fuel : Nat} {cs : List Value} {x : DataW H × List MemPlace} (h : DataW.trod enc P w 0 (fun _ => true) true fuel t cs = some x) :
    cs.length = P.cellsOf t ∧ ∀ (i : Nat) (f : Field) (o c : Nat) {α : Type} {En : List Value → α → Prop}, fs[i]? = some f → f.offset = o → P.cellsOf f.type = c → Rd enc P w f.type En → ∃ a, En ((cs.drop o).take c) a := by
  obtain ⟨xs, n, h1, h2, h3, h4, h5⟩ := DataW.trod_struct ht h
  refine ⟨h3, fun i f o c α En hf ho hc he => ?_⟩
  have h6 := h5 i f hf
  have hi : i < xs.length := by rw [h4]; exact (Array.getElem?_eq_some_iff.1 hf).1
  rw [List.getElem?_eq_getElem hi, ho, hc] at h6
  exact he _ _ _ h6
theorem ok_slice {t e : TypeId} {r : Reach} {b : Nat} {v : Value} (ht : P.underlying t = some (.slice e)) (hv : Value.okWide P w r b t v) : v.cells.toList = [v] := by
  unfold Value.okWide at hv
  rw [ht] at hv
  cases v <;> first | rfl | (simp [Cell.okWide, Cell.ok, ht] at hv; done)
theorem laidOut : laidOutB Tryz.prog = true := by kernel_rfl
/-- what was there reads as before -/
theorem Ext.trod {t : TypeId} (hr : Tryz.prog.readableRec t = true) (hrow : t < Tryz.prog.types.size) {W W' : World} {v : Value} {d : DataW H} {ps : List MemPlace} (h : DataW.Trod enc Tryz.prog W 0 (fun _ => true) true t v d ps) (hE : Ext W W')
    (hlt : ∀ x ∈ ps, x.block < W.heap.size) (sp : Nat → Bool) (hsp : ∀ x ∈ ps, sp x.block = true) : DataW.Trod enc Tryz.prog W' 0 sp true t v d ps :=
  WideElems.Trod_stays laidOut hr hrow h (fun x hx => hE.below.same (hlt x hx)) hsp
end
end Go.Proofs.YtcfgnbbiljohjaaGreatDoor
end
section
/- Rows of elements in a slice that the call owns: joined, cut, taken over from any slice. No program's function is named here. -/
set_option linter.unusedVariables false
set_option linter.unusedSimpArgs false
set_option maxRecDepth 100000
namespace Go.Proofs.YtcfgnbbiljohjaaGreatDoor
open Go.RowKit

section
variable {α : Type} {sz : Nat} {En : List Value → α → Prop} {cs cs' : List Value} {l l' : List α}
theorem RowOf.append (h : RowOf sz En cs l) (h' : RowOf sz En cs' l') : RowOf sz En (cs ++ cs') (l ++ l') := by
  obtain ⟨a, rfl, a1, a2⟩ := h
  obtain ⟨b, rfl, b1, b2⟩ := h'
  refine ⟨a ++ b, by simp, by simp [a1, b1], fun j hj hj' => ?_⟩
  by_cases hjl : j < l.length
  · rw [List.getElem_append_left (by omega), List.getElem_append_left hjl]
    exact a2 j hjl (by omega)
  · simp only [List.length_append] at hj hj'
    rw [List.getElem_append_right (by omega), List.getElem_append_right (by omega)]
    simp only [a1]
    exact b2 (j - l.length) (by omega) (by omega)
theorem flat_drop : ∀ (css : List (List Value)) (i : Nat), (∀ j (h : j < css.length), css[j].length = sz) → i ≤ css.length → css.flatten.drop (i * sz) = (css.drop i).flatten ∧ css.flatten.take (i * sz) = (css.take i).flatten
  | css, 0, _, _ => by simp
  | [], i + 1, _, h => by simp at h
  | c :: css, i + 1, h, hi => by
    have h0 := h 0 (by simp)
    simp only [List.getElem_cons_zero] at h0
    obtain ⟨h1, h2⟩ := flat_drop css i (fun j hj => by have := h (j + 1) (by simp; omega); simpa using this) (by simpa using hi)
    have e : (i + 1) * sz = c.length + i * sz := by rw [h0, Nat.add_mul]; omega
    simp only [List.flatten_cons, List.drop_succ_cons, List.take_succ_cons]
    rw [e, List.drop_append, List.take_append]
    simp only [Nat.add_sub_cancel_left, List.drop_of_length_le (show c.length ≤ c.length + i * sz by omega), List.take_of_length_le (show c.length ≤ c.length + i * sz by omega), List.nil_append, h1, h2]
    exact ⟨trivial, trivial⟩
theorem RowOf.drop (h : RowOf sz En cs l) (i : Nat) (hi : i ≤ l.length) : RowOf sz En (cs.drop (i * sz)) (l.drop i) := by
  obtain ⟨a, rfl, a1, a2⟩ := h
  rw [(flat_drop a i (fun j hj => (a2 j (by omega) hj).1) (by omega)).1]
  refine ⟨_, rfl, by simp [a1], fun j hj hj' => ?_⟩
  simp only [List.length_drop] at hj hj'
  simp only [List.getElem_drop]
  exact a2 (i + j) (by omega) (by omega)
theorem RowOf.take (h : RowOf sz En cs l) (i : Nat) (hi : i ≤ l.length) : RowOf sz En (cs.take (i * sz)) (l.take i) := by
  obtain ⟨a, rfl, a1, a2⟩ := h
  rw [(flat_drop a i (fun j hj => (a2 j (by omega) hj).1) (by omega)).2]
  refine ⟨_, rfl, by simp [a1], fun j hj hj' => ?_⟩
  simp only [List.length_take] at hj hj'
  simp only [List.getElem_take]
  exact a2 j (by omega) (by omega)
theorem RowOf.one {c : List Value} {x : α} (h : En c x) (hc : c.length = sz) : RowOf sz En c [x] := ⟨[c], by simp, rfl, fun j hj hj' => by
  obtain rfl : j = 0 := by simp at hj; omega
  exact ⟨hc, h⟩⟩
/-- each element is one of few cells -/
theorem RowOf.all {p : Value → Prop} (h : RowOf sz En cs l) (hp : ∀ c x, En c x → ∀ u ∈ c, p u) : ∀ u ∈ cs, p u := by
  obtain ⟨a, rfl, a1, a2⟩ := h
  intro u hu
  obtain ⟨c, hc, huc⟩ := List.mem_flatten.1 hu
  obtain ⟨j, hj, rfl⟩ := List.getElem_of_mem hc
  exact hp _ _ (a2 j (by omega) hj).2 u huc
/-- the cells of any slice of elements -/
theorem SlV.row {w : World} {A : Nat → Prop} {At : Nat → Nat → α → Prop} {v : Value} (h : SlV A At sz v l) (hat : ∀ b o x, A b → At b o x → ∃ c, En c x ∧ c.length = sz ∧ ∀ j, j < sz → w.cell? ⟨b, o + j, none⟩ = c[j]?) :
    ∃ cs, RowOf sz En cs l ∧ SrcCells w v l.length cs := by
  rcases h with ⟨a, rfl, rfl⟩ | ⟨b, o, c, rfl, h1, h2, h3⟩
  · refine ⟨[], RowOf.nil, ?_⟩
    cases a with
    | none => exact .inl ⟨rfl, rfl, rfl⟩
    | some ad => exact .inr ⟨ad, 0, rfl, fun j u hu => by simp at hu⟩
  · obtain ⟨css, k1, k2⟩ := list_of_each (p := fun i (c : List Value) => ∃ h : i < l.length, En c l[i] ∧ c.length = sz ∧ ∀ j, j < sz → w.cell? ⟨b, o + i * sz + j, none⟩ = c[j]?) l.length fun i hi => by
      obtain ⟨c, e1, e2, e3⟩ := hat b _ _ h2 (h3 i hi)
      exact ⟨c, hi, e1, e2, e3⟩
    refine ⟨css.flatten, ⟨css, rfl, k1, fun j hj hj' => ?_⟩, .inr ⟨⟨b, o, none⟩, c, rfl, fun j u hu => ?_⟩⟩
    · obtain ⟨_, e1, e2, _⟩ := k2 j hj'
      exact ⟨e2, e1⟩
    · have hlen : css.flatten.length = css.length * sz := flat_len_uniform css fun j hj => let ⟨_, _, e2, _⟩ := k2 j hj; e2
      have hj : j < css.length * sz := by rw [← hlen]; exact (List.getElem?_eq_some_iff.1 hu).1
      have hsz : 0 < sz := by rcases Nat.eq_zero_or_pos sz with h | h; rw [h] at hj; omega; exact h
      have hq : j / sz < css.length := Nat.div_lt_of_lt_mul (by rwa [Nat.mul_comm] at hj)
      obtain ⟨_, e1, e2, e3⟩ := k2 (j / sz) hq
      have hm := Nat.mod_lt j hsz
      have hj' : j / sz * sz + j % sz = j := by rw [Nat.mul_comm]; exact Nat.div_add_mod j sz
      have hg := flat_get css (j / sz) (j % sz) hq (fun j hj => let ⟨_, _, e2, _⟩ := k2 j hj; e2) hm
      rw [hj'] at hg
      rw [Addr.add_lit, ← hu, hg, ← e3 _ hm]
      congr 2
      omega
/-- .. and back -/
theorem SlV.of_win {w : World} {base n : Nat} {v : Value} {At : Nat → Nat → α → Prop} (h : Win w base sz v n cs) (hn : n = l.length) (hr : RowOf sz En cs l)
    (hat : ∀ b o c x, En c x → c.length = sz → (∀ i, i < sz → w.cell? ⟨b, o + i, none⟩ = c[i]?) → At b o x) : SlV (fun b => base ≤ b ∧ b < w.heap.size) At sz v l := by
  subst hn
  rcases h.2 with ⟨rfl, h0⟩ | ⟨g, o, cap, rfl, h1, h2, h3, h4, h5, h6⟩
  · exact .inl ⟨none, rfl, List.eq_nil_of_length_eq_zero (by omega)⟩
  · refine .inr ⟨g, o, cap, rfl, h2, ⟨h1, h4⟩, fun j hj => ?_⟩
    obtain ⟨c, c1, c2, c3⟩ := hr.get j hj
    refine hat _ _ c _ c2 c1 fun i hi => ?_
    have hlt : j * sz + i < cs.length := by
      have : (j + 1) * sz ≤ l.length * sz := Nat.mul_le_mul_right _ hj
      rw [Nat.add_mul] at this
      rw [h.1]; omega
    have := h6 (j * sz + i) _ (List.getElem?_eq_getElem hlt)
    rw [← Nat.add_assoc] at this
    rw [this, ← List.getElem?_eq_getElem hlt]
    exact c3 i hi
end
/-- a slice without its first elements, as the model writes it -/
theorem SlV.drop {α : Type} {A : Nat → Prop} {At : Nat → Nat → α → Prop} {sz b o c : Nat} {l : List α} (h : SlV A At sz (.slice (some ⟨b, o, none⟩) l.length c) l) (i : Nat) (hi : i ≤ l.length) :
    SlV A At sz (.slice (if c = i then some ⟨b, o, none⟩ else some ⟨b, o + i * sz, none⟩) (l.length - i) (c - i)) (l.drop i) := by
  rcases h with ⟨a, h1, rfl⟩ | ⟨b', o', c', h1, h2, h3, h4⟩
  · obtain rfl : i = 0 := by simpa using hi
    simp only [List.length_nil, Value.slice.injEq] at h1
    obtain ⟨rfl, _, rfl⟩ := h1
    exact .inl ⟨_, rfl, rfl⟩
  · simp only [Value.slice.injEq, Option.some.injEq, Addr.mk.injEq] at h1
    obtain ⟨⟨rfl, rfl, _⟩, _, rfl⟩ := h1
    by_cases hc : c = i
    · subst hc
      rw [if_pos rfl]
      refine .inl ⟨_, by congr 1 <;> omega, List.drop_of_length_le h2⟩
    · rw [if_neg hc]
      refine .inr ⟨b, o + i * sz, c - i, by rw [List.length_drop], by rw [List.length_drop]; omega, h3, fun j hj => ?_⟩
      rw [List.length_drop] at hj
      rw [List.getElem_drop, show o + i * sz + j * sz = o + (i + j) * sz by rw [Nat.add_mul]; omega]
      exact h4 (i + j) (by omega)
/-- a literal of no element -/
theorem Win.empty {w : World} {base sz g : Nat} (hb : base ≤ g) (hg : g < w.heap.size) : Win w base sz (.slice (some ⟨g, 0, none⟩) 0 0) 0 [] :=
  ⟨by simp, .inr ⟨g, 0, 0, rfl, hb, Nat.le_refl _, Nat.zero_le _, hg, fun j hj => by omega, fun j u hu => by simp at hu⟩⟩
theorem Win.take {w : World} {base sz n cap o g : Nat} {cs : List Value} (h : Win w base sz (.slice (some ⟨g, o, none⟩) n cap) n cs) (i : Nat) (hi : i ≤ n) : Win w base sz (.slice (some ⟨g, o, none⟩) i cap) i (cs.take (i * sz)) := by
  obtain ⟨h0, ⟨h, _⟩ | ⟨g', o', cap', h, h1, h2, h3, h4, h5, h6⟩⟩ := h
  · cases h
  · cases h
    refine ⟨by rw [List.length_take, h0]; exact Nat.min_eq_left (Nat.mul_le_mul_right _ hi), .inr ⟨g, o, _, rfl, h1, by omega, h3, h4, h5, fun j u hu => h6 j u ?_⟩⟩
    rw [List.getElem?_take] at hu
    split at hu
    · exact hu
    · cases hu
end Go.Proofs.YtcfgnbbiljohjaaGreatDoor
end
section
/- A walk that is held before an append, so that what lies in memory can be named first. No program is named here. -/
set_option linter.unusedVariables false
set_option linter.unusedSimpArgs false
namespace Go.Proofs.YtcfgnbbiljohjaaGreatDoor
structure Stopped (p : Prop) : Prop where
  out : p
def TwoB (a b : Nat) : Nat → Prop := fun k => k = a ∨ k = b
theorem standing {p : Prop} (h : Stopped p) : p := h.out
end Go.Proofs.YtcfgnbbiljohjaaGreatDoor
end
section
/- What lies in memory as a list of things that lie apart ('Mem'): each deed turns one of them and leaves the others. No program is named here. -/
set_option linter.unusedVariables false
set_option linter.unusedSimpArgs false
namespace Go.Proofs.YtcfgnbbiljohjaaGreatDoor
open Go.RowKit

/-- a thing in memory: F tells blocks among which it lies -/
structure Res where
  tag : Option (Nat × List Value)
  p : (Nat → Prop) → World → Prop
  keeps : ∀ {F S w w'}, p F w → Keeps S w w' → (∀ k, F k → ¬ S k) → p F w'
  lt : ∀ {F w}, p F w → ∀ k, F k → k < w.heap.size
  facts : ∀ {F w b cs}, tag = some (b, cs) → p F w → F b ∧ (∀ o, w.cell? ⟨b, o, none⟩ = cs[o]?) ∧ ∀ o, w.frozen? ⟨b, o, none⟩ = false

/-- a block known whole -/
def cellsR (b : Nat) (t : TypeId) (cs : List Value) : Res where
  tag := some (b, cs)
  p F w := (∀ k, F k ↔ k = b) ∧ Box w b t cs
  keeps h hk hs := ⟨h.1, h.2.keeps hk (hs b ((h.1 b).2 rfl))⟩
  lt h k hk := by rw [(h.1 k).1 hk]; exact h.2.lt
  facts e h := by cases e; exact ⟨(h.1 b).2 rfl, h.2.reads.1, h.2.reads.2⟩
/-- a slice that is owned -/
def winR (sz : Nat) (v : Value) (n : Nat) (cs : List Value) : Res where
  tag := none
  p F w := (∀ k, F k ↔ v.ownBlock = some k) ∧ Win w 0 sz v n cs
  keeps h hk hs := ⟨h.1, h.2.keeps hk fun g hg => hs g ((h.1 g).2 hg)⟩
  lt h k hk := (h.2.block k ((h.1 k).1 hk)).2
  facts e h := by cases e
/-- anything else -/
def anyR (p : (Nat → Prop) → World → Prop) (keeps : ∀ {F S w w'}, p F w → Keeps S w w' → (∀ k, F k → ¬ S k) → p F w') (lt : ∀ {F w}, p F w → ∀ k, F k → k < w.heap.size) : Res where
  tag := none
  p := p
  keeps := keeps
  lt := lt
  facts e h := by cases e

theorem cellsR_tag {b : Nat} {t : TypeId} {cs : List Value} : (cellsR b t cs).tag = some (b, cs) := rfl
theorem winR_tag {sz : Nat} {v : Value} {n : Nat} {cs : List Value} : (winR sz v n cs).tag = none := rfl

def SepL : List Res → (Nat → Prop) → World → Prop
  | [], F, w => ∀ k, ¬ F k
  | r :: L, F, w => ∃ A B, r.p A w ∧ SepL L B w ∧ (∀ k, A k → ¬ B k) ∧ ∀ k, F k ↔ A k ∨ B k

inductive Pick : List Res → Res → List Res → Prop
  | here {r L} : Pick (r :: L) r L
  | there {x r L L'} : Pick L r L' → Pick (x :: L) r (x :: L')

theorem ph {r : Res} {L : List Res} : Pick (r :: L) r L := .here
theorem pt {x r : Res} {L L' : List Res} (h : Pick L r L') : Pick (x :: L) r (x :: L') := .there h
section
variable {F G S : Nat → Prop} {w w' : World} {L L' : List Res} {r r' : Res}
theorem SepL.keeps : ∀ {L : List Res} {F S : Nat → Prop} {w w' : World}, SepL L F w → Keeps S w w' → (∀ k, F k → ¬ S k) → SepL L F w'
  | [], _, _, _, _, h, _, _ => h
  | _ :: _, _, _, _, _, ⟨A, B, h1, h2, h3, h4⟩, hk, hs => ⟨A, B, Res.keeps _ h1 hk fun k hA => hs k ((h4 k).2 (.inl hA)), SepL.keeps h2 hk fun k hB => hs k ((h4 k).2 (.inr hB)), h3, h4⟩
theorem SepL.lt : ∀ {L : List Res} {F : Nat → Prop} {w : World}, SepL L F w → ∀ k, F k → k < w.heap.size
  | [], _, _, h, k, hF => (h k hF).elim
  | _ :: _, _, _, ⟨A, B, h1, h2, h3, h4⟩, k, hF => by
    rcases (h4 k).1 hF with h | h
    · exact Res.lt _ h1 k h
    · exact SepL.lt h2 k h
theorem SepL.congr : ∀ {L : List Res} {F G : Nat → Prop} {w : World}, SepL L F w → (∀ k, G k ↔ F k) → SepL L G w
  | [], _, _, _, h, e => fun k hk => h k ((e k).1 hk)
  | _ :: _, _, _, _, ⟨A, B, h1, h2, h3, h4⟩, e => ⟨A, B, h1, h2, h3, fun k => (e k).trans (h4 k)⟩
theorem SepL.swap {x : Res} (h : SepL (x :: r :: L) F w) : SepL (r :: x :: L) F w := by
  obtain ⟨A, B, h1, ⟨C, D, h2, h3, h4, h5⟩, h6, h7⟩ := h
  refine ⟨C, fun k => A k ∨ D k, h2, ⟨A, D, h1, h3, fun k hA hD => h6 k hA ((h5 k).2 (.inr hD)), fun k => Iff.rfl⟩, fun k hC hAD => ?_, fun k => ?_⟩
  · rcases hAD with h | h
    · exact h6 k h ((h5 k).2 (.inl hC))
    · exact h4 k hC h
  · rw [h7 k, h5 k]
    constructor
    · rintro (h | h | h)
      · exact .inr (.inl h)
      · exact .inl h
      · exact .inr (.inr h)
    · rintro (h | h | h)
      · exact .inr (.inl h)
      · exact .inl h
      · exact .inr (.inr h)
theorem Pick.sep : ∀ {L L' : List Res} {r : Res} {F : Nat → Prop}, Pick L r L' → SepL L F w → SepL (r :: L') F w
  | _, _, _, _, .here, h => h
  | _, _, _, _, .there p, ⟨A, B, h1, h2, h3, h4⟩ => SepL.swap ⟨A, B, h1, p.sep h2, h3, h4⟩
theorem SepL.append : ∀ {L1 L2 : List Res} {A B F : Nat → Prop}, SepL L1 A w → SepL L2 B w → (∀ k, A k → ¬ B k) → (∀ k, F k ↔ A k ∨ B k) → SepL (L1 ++ L2) F w
  | [], _, A, B, F, h1, h2, _, e => h2.congr fun k => by rw [e k]; exact ⟨fun h => h.resolve_left (h1 k), .inr⟩
  | _ :: _, _, A, B, F, ⟨C, D, c1, c2, c3, c4⟩, h2, h3, e => by
    refine ⟨C, fun k => D k ∨ B k, c1, SepL.append c2 h2 (fun k hD => h3 k ((c4 k).2 (.inr hD))) (fun k => Iff.rfl), fun k hC h => ?_, fun k => ?_⟩
    · rcases h with h | h
      · exact c3 k hC h
      · exact h3 k ((c4 k).2 (.inl hC)) h
    · rw [e k, c4 k, or_assoc]
theorem SepL.split : ∀ {L1 L2 : List Res} {F : Nat → Prop}, SepL (L1 ++ L2) F w → ∃ A B, SepL L1 A w ∧ SepL L2 B w ∧ (∀ k, A k → ¬ B k) ∧ ∀ k, F k ↔ A k ∨ B k
  | [], L2, F, h => ⟨fun _ => False, F, fun k h => h, h, fun k h _ => h, fun k => ⟨.inr, fun h => h.resolve_left id⟩⟩
  | x :: L1, L2, F, ⟨C, D, c1, c2, c3, c4⟩ => by
    obtain ⟨A, B, a1, a2, a3, a4⟩ := SepL.split c2
    refine ⟨fun k => C k ∨ A k, B, ⟨C, A, c1, a1, fun k hC hA => c3 k hC ((a4 k).2 (.inl hA)), fun k => Iff.rfl⟩, a2, fun k h hB => ?_, fun k => ?_⟩
    · rcases h with h | h
      · exact c3 k h ((a4 k).2 (.inr hB))
      · exact a3 k h hB
    · rw [c4 k, a4 k, or_assoc]
end

def apartL (b : Nat) : List (Nat × List Value) → Prop
  | [] => True
  | (c, _) :: l => ¬ b = c ∧ ¬ c = b ∧ apartL b l
def factsL (w : World) : List (Nat × List Value) → Prop
  | [] => True
  | (b, cs) :: l => (∀ o, w.cell? ⟨b, o, none⟩ = cs[o]?) ∧ (∀ o, w.frozen? ⟨b, o, none⟩ = false) ∧ b < w.heap.size ∧ apartL b l ∧ factsL w l
theorem SepL.tags : ∀ {L : List Res} {F : Nat → Prop} {w : World}, SepL L F w → (∀ x ∈ L.filterMap Res.tag, F x.1) ∧ factsL w (L.filterMap Res.tag)
  | [], _, _, _ => ⟨fun x hx => by simp at hx, trivial⟩
  | r :: L, F, w, ⟨A, B, h1, h2, h3, h4⟩ => by
    obtain ⟨i1, i2⟩ := SepL.tags h2
    cases hr : r.tag with
    | none =>
      rw [List.filterMap_cons_none hr]
      exact ⟨fun x hx => (h4 _).2 (.inr (i1 x hx)), i2⟩
    | some t =>
      obtain ⟨b, cs⟩ := t
      rw [List.filterMap_cons_some hr]
      obtain ⟨hA, f1, f2⟩ := r.facts hr h1
      refine ⟨fun x hx => ?_, f1, f2, r.lt h1 b hA, ?_, i2⟩
      · rcases List.mem_cons.1 hx with rfl | hx
        · exact (h4 _).2 (.inl hA)
        · exact (h4 _).2 (.inr (i1 x hx))
      · have key : ∀ l : List (Nat × List Value), (∀ x ∈ l, B x.1) → apartL b l := by
          intro l
          induction l with
          | nil => exact fun _ => trivial
          | cons x l ih =>
            intro hl
            have hx := hl x (List.mem_cons_self ..)
            have hne : ¬ b = x.1 := fun e => h3 b hA (by rw [e]; exact hx)
            exact ⟨hne, fun e => hne e.symm, ih fun y hy => hl y (List.mem_cons_of_mem _ hy)⟩
        exact key _ i1

/-- of what lay in w0 nothing but F's blocks has turned; the things of L lie apart, in F's blocks and in new ones -/
def Mem (F : Nat → Prop) (w0 w : World) (L : List Res) : Prop := Keeps F w0 w ∧ ∃ G, SepL L G w ∧ ∀ k, G k → F k ∨ w0.heap.size ≤ k
/-- behind a deed a thing lies in F's blocks and in new ones, and nothing else has turned -/
def Upd (F : Nat → Prop) (w0 w : World) (r : Res) : Prop := ∃ F', r.p F' w ∧ Keeps F w0 w ∧ ∀ k, F' k → F k ∨ w0.heap.size ≤ k
section
variable {F G S : Nat → Prop} {w0 w w' : World} {L L' L1 : List Res} {r r' : Res}
theorem Mem.start (h : r.p F w) : Mem F w w [r] := ⟨Keeps.refl _ _, F, ⟨F, fun _ => False, h, fun _ h => h, fun _ _ h => h, fun k => ⟨.inl, fun h => h.resolve_right id⟩⟩, fun k h => .inl h⟩
theorem Mem.start0 (w : World) : Mem NoB w w [] := ⟨Keeps.refl _ _, fun _ => False, fun _ h => h, fun k h => h.elim⟩
theorem Mem.startF (F : Nat → Prop) (w : World) : Mem F w w [] := ⟨Keeps.refl _ _, fun _ => False, fun _ h => h, fun k h => h.elim⟩
theorem Mem.two (h : r.p F w) (h' : r'.p G w) (hd : ∀ k, F k → ¬ G k) : Mem (fun k => F k ∨ G k) w w [r, r'] :=
  ⟨Keeps.refl _ _, fun k => F k ∨ G k, ⟨F, G, h, ⟨G, fun _ => False, h', fun _ h => h, fun _ _ h => h, fun k => ⟨.inl, fun h => h.resolve_right id⟩⟩, hd, fun _ => Iff.rfl⟩, fun k h => .inl h⟩
theorem Mem.pick (h : Mem F w0 w L) (p : Pick L r L') : Mem F w0 w (r :: L') := let ⟨a, G, b, c⟩ := h; ⟨a, G, p.sep b, c⟩
theorem Mem.drop (h : Mem F w0 w (r :: L)) : Mem F w0 w L := by
  obtain ⟨a, G, ⟨A, B, h1, h2, h3, h4⟩, c⟩ := h
  exact ⟨a, B, h2, fun k hB => c k ((h4 k).2 (.inr hB))⟩
theorem Mem.keepsTo (h : Mem F w0 w L) : Keeps F w0 w := h.1
theorem Mem.extTo (h : Mem NoB w0 w L) : Ext w0 w := h.1
theorem Mem.upd (h : Mem F w0 w (r :: L)) : Upd F w0 w r := by
  obtain ⟨a, G, ⟨A, B, h1, h2, h3, h4⟩, c⟩ := h
  exact ⟨A, h1, a, fun k hA => c k ((h4 k).2 (.inl hA))⟩
theorem Mem.facts (h : Mem F w0 w L) : factsL w (L.filterMap Res.tag) := let ⟨_, _, b, _⟩ := h; b.tags.2
theorem Mem.ext (h : Mem F w0 w L) (e : Ext w w') : Mem F w0 w' L := let ⟨a, G, b, c⟩ := h; ⟨a.ext e, G, b.keeps e fun _ _ => noB _, c⟩
theorem Mem.drew (h : Mem F w0 w L) : Mem F w0 w.drew L := h.ext (Ext.drew0 w)
theorem Mem.drewN {n : Nat} (h : Mem F w0 w L) : Mem F w0 (w.drewN n) L := h.ext ((Keeps.refl _ _).drewN n)
/-- a thing that is new -/
theorem Mem.new (h : Mem F w0 w L) (e : Ext w w') (hr : r.p G w') (hG : ∀ k, G k → w.heap.size ≤ k) : Mem F w0 w' (r :: L) := by
  obtain ⟨a, H, b, c⟩ := h
  have hb := b.lt
  refine ⟨a.ext e, fun k => G k ∨ H k, ⟨G, H, hr, b.keeps e fun _ _ => noB _, fun k h1 h2 => by have := hG k h1; have := hb k h2; omega, fun k => Iff.rfl⟩, fun k hk => ?_⟩
  rcases hk with hk | hk
  · have := hG k hk; have := a.size; exact .inr (by omega)
  · exact c k hk
theorem Mem.step' (h : Mem F w0 w (r :: L)) : ∃ A, r.p A w ∧ (∀ k, A k → F k ∨ w0.heap.size ≤ k) ∧ ∀ (r' : Res) (w' : World), Upd A w w' r' → Mem F w0 w' (r' :: L) := by
  obtain ⟨a, G, ⟨A, B, h1, h2, h3, h4⟩, c⟩ := h
  have hA := fun k hk => c k ((h4 k).2 (.inl hk))
  refine ⟨A, h1, hA, fun r' w' ⟨A', u1, u2, u3⟩ => ?_⟩
  have hB := fun k hk => c k ((h4 k).2 (.inr hk))
  have hlt := h2.lt
  refine ⟨a.then u2 fun i hi h => ?_, fun k => A' k ∨ B k, ⟨A', B, u1, h2.keeps u2 fun k hk hA' => h3 k hA' hk, fun k h5 h6 => ?_, fun k => Iff.rfl⟩, fun k hk => ?_⟩
  · rcases hA i h with h | h
    · exact h
    · omega
  · rcases u3 k h5 with h | h
    · exact h3 k h h6
    · have := hlt k h6; omega
  · rcases hk with hk | hk
    · rcases u3 k hk with h | h
      · exact hA k h
      · have := a.size; exact .inr (by omega)
    · exact hB k hk
/-- a deed of one thing's own -/
theorem Mem.step (h : Mem F w0 w (r :: L)) : ∃ A, r.p A w ∧ ∀ (r' : Res) (w' : World), Upd A w w' r' → Mem F w0 w' (r' :: L) := let ⟨A, h1, _, h2⟩ := h.step'; ⟨A, h1, h2⟩
/-- .. of one thing that comes to be several -/
theorem Mem.open (h : Mem F w0 w (r :: L)) (ho : ∀ A, r.p A w → ∃ B, SepL L1 B w ∧ ∀ k, B k → A k) : Mem F w0 w (L1 ++ L) := by
  obtain ⟨a, G, ⟨A, B, h1, h2, h3, h4⟩, c⟩ := h
  obtain ⟨C, d1, d2⟩ := ho A h1
  refine ⟨a, fun k => C k ∨ B k, SepL.append d1 h2 (fun k hC => h3 k (d2 k hC)) (fun k => Iff.rfl), fun k hk => c k ((h4 k).2 ?_)⟩
  rcases hk with hk | hk
  · exact .inl (d2 k hk)
  · exact .inr hk
theorem Mem.openE {α : Sort _} {M : α → List Res} (h : Mem F w0 w (r :: L)) (ho : ∀ A, r.p A w → ∃ x B, SepL (M x) B w ∧ ∀ k, B k → A k) : ∃ x, Mem F w0 w (M x ++ L) := by
  obtain ⟨a, G, ⟨A, B, h1, h2, h3, h4⟩, c⟩ := h
  obtain ⟨x, C, d1, d2⟩ := ho A h1
  refine ⟨x, a, fun k => C k ∨ B k, SepL.append d1 h2 (fun k hC => h3 k (d2 k hC)) (fun k => Iff.rfl), fun k hk => c k ((h4 k).2 ?_)⟩
  rcases hk with hk | hk
  · exact .inl (d2 k hk)
  · exact .inr hk
theorem Mem.close (h : Mem F w0 w (L1 ++ L)) (hc : ∀ A, SepL L1 A w → r.p A w) : Mem F w0 w (r :: L) := by
  obtain ⟨a, G, b, c⟩ := h
  obtain ⟨A, B, h1, h2, h3, h4⟩ := b.split
  exact ⟨a, G, ⟨A, B, hc A h1, h2, h3, h4⟩, c⟩
theorem Mem.turn (h : Mem F w0 w (r :: L)) (hc : ∀ A, r.p A w → r'.p A w) : Mem F w0 w (r' :: L) := by
  obtain ⟨a, G, ⟨A, B, h1, h2, h3, h4⟩, c⟩ := h
  exact ⟨a, G, ⟨A, B, hc A h1, h2, h3, h4⟩, c⟩
theorem Mem.get (h : Mem F w0 w L) (p : Pick L r L') : ∃ A, r.p A w := let ⟨_, _, ⟨A, _, h1, _⟩, _⟩ := h.pick p; ⟨A, h1⟩
theorem Mem.fact {φ : Prop} (h : Mem F w0 w (r :: L)) (hf : ∀ A, r.p A w → φ) : φ := let ⟨_, _, ⟨A, _, h1, _⟩, _⟩ := h; hf A h1
theorem Mem.alloc {t : TypeId} {cs : List Value} {n : Nat} (h : Mem F w0 w L) (hn : w.heap.size = n) : Mem F w0 (w.alloc (.cells cs.toArray t)) (cellsR n t cs :: L) := by
  subst hn
  exact h.new (G := fun k => k = w.heap.size) ((Keeps.refl _ _).alloc _) ⟨fun k => Iff.rfl, Box.new w t cs⟩ (fun k hk => by omega)
theorem Mem.allocO {o : Obj} (h : Mem F w0 w L) : Mem F w0 (w.alloc o) L := h.ext ((Keeps.refl _ _).alloc _)
theorem Mem.set {b o : Nat} {t : TypeId} {cs : List Value} {v : Value} (h : Mem F w0 w L) (p : Pick L (cellsR b t cs) L') : Mem F w0 (w.setCell ⟨b, o, none⟩ v) (cellsR b t (cs.set o v) :: L') := by
  obtain ⟨A, h1, h2⟩ := (h.pick p).step
  refine h2 _ _ ⟨A, ⟨h1.1, h1.2.set o v⟩, (Keeps.refl _ _).setCell _ _ (.inl ((h1.1 b).2 rfl)), fun k h => .inl h⟩
/-- a deed of nothing's own but what it makes -/
theorem Mem.call {P : Program} {f : FuncId} {args : Array Value} {K : Ending → World → Prop} (h : Mem F w0 w' L) (k : ∀ w, Mem F w0 w L → Calls P f args w K) : Calls P f args w' K := k _ h
theorem Mem.stop {P : Program} {ops : Array Oper} {Q : Exit → Act → World → Prop} {l : List Oper} {a : Act} (h : Mem F w0 w' L) (k : ∀ w, Mem F w0 w L → Stopped (wpList P ops Q l a w)) : Stopped (wpList P ops Q l a w') := k _ h
theorem Mem.list {P : Program} {ops : Array Oper} {Q : Exit → Act → World → Prop} {l : List Oper} {a : Act} (h : Mem F w0 w' L) (k : ∀ w, Mem F w0 w L → wpList P ops Q l a w) : wpList P ops Q l a w' := k _ h
theorem Mem.code {P : Program} {c : Code} {Q : Exit → Act → World → Prop} {a : Act} (h : Mem F w0 w' L) (k : ∀ w, Mem F w0 w L → c.wp P Q a w) : c.wp P Q a w' := k _ h
theorem Mem.postD {P : Program} {fn : Func} {R : Ending → World → Prop} {e : Exit} {a : Act} (h : Mem F w0 w' L) (k : ∀ w, Mem F w0 w L → bodyPostD P fn R e a w) : bodyPostD P fn R e a w' := k _ h
theorem Mem.toUpd (h : Mem F w0 w' L) (k : ∀ w, Mem F w0 w L → Upd F w0 w r) : Upd F w0 w' r := k _ h
/-- append onto a slice that is owned -/
theorem Mem.append {P : Program} (t tx ty e : TypeId) (i : TypeInfo) (z : Value) (sz bytes : Nat) (ht : P.underlying t = some (.slice e)) (hi : P.info? e = some i) (hz : i.zero = some z)
    (hsize : i.size = sz) (hby : i.bytes = bytes) (hzs : z.cells.size = sz) {v : Value} {n : Nat} {cs : List Value} (h : Mem F w0 w (winR sz v n cs :: L))
    (x : Value) (m : Nat) (news : List Value) (hs : Src P sz tx x m news w) (h63 : n + m ≤ maxLen) (hbytes : (n + m) * bytes ≤ 140737488355328) :
    ∃ v' w', (Builtin.append_ #[t, tx] ty #[v, x]).run P w = .ok v' w' ∧ Mem F w0 w' (winR sz v' (n + m) (cs ++ news) :: L) := by
  obtain ⟨A, h1, h2⟩ := h.step
  obtain ⟨v', w', hr, hw, hk, ho⟩ := run_append_win w 0 t tx ty e i z sz bytes ht hi hz hsize hby hzs v n cs h1.2 x m news hs h63 hbytes (Nat.zero_le _)
  refine ⟨v', w', hr, h2 _ _ ⟨Own v', ⟨fun k => Iff.rfl, hw⟩, hk.mono fun k _ hk => (h1.1 k).2 hk, fun k hk => ?_⟩⟩
  rcases ho with ho | ho
  · exact .inl ((h1.1 k).2 (by rw [← ho]; exact hk))
  · have hk' : v'.ownBlock = some k := hk
    rw [ho] at hk'
    exact .inr (by have := Option.some.inj hk'; omega)
end
/-- what the blocks of some things read, as rules -/
theorem seeS : (∀ w : World, factsL w [] = True) ∧ (∀ (w : World) b cs l, factsL w ((b, cs) :: l) = ((∀ o, w.cell? ⟨b, o, none⟩ = cs[o]?) ∧ (∀ o, w.frozen? ⟨b, o, none⟩ = false) ∧ b < w.heap.size ∧ apartL b l ∧ factsL w l))
    ∧ (∀ b, apartL b [] = True) ∧ (∀ b c cs l, apartL b ((c, cs) :: l) = (¬ b = c ∧ ¬ c = b ∧ apartL b l)) ∧ (∀ b t cs, (cellsR b t cs).tag = some (b, cs)) ∧ (∀ sz v n cs, (winR sz v n cs).tag = none) ∧ (∀ p, (p ∧ True) = p)
    ∧ (∀ (a : Res) l, (a :: l).filterMap Res.tag = match a.tag with | none => l.filterMap Res.tag | some b => b :: l.filterMap Res.tag) ∧ ([].filterMap Res.tag = []) ∧ (∀ (a : Res) l m, a :: l ++ m = a :: (l ++ m)) ∧ ∀ l : List Res, [] ++ l = l :=
  ⟨fun _ => rfl, fun _ _ _ _ => rfl, fun _ => rfl, fun _ _ _ _ => rfl, fun _ _ _ => rfl, fun _ _ _ _ => rfl, fun _ => and_true _, fun a _ => by rw [List.filterMap_cons]; cases a.tag <;> rfl, rfl, fun _ _ _ => rfl, fun _ => rfl⟩
end Go.Proofs.YtcfgnbbiljohjaaGreatDoor
end
section
/- Loads and stores of whole blocks of many cells, as single steps of a walk. No program is named here. -/
set_option linter.unusedVariables false
set_option linter.unusedSimpArgs false
namespace Go.Proofs.YtcfgnbbiljohjaaGreatDoor
open Go.RowKit
section
variable {P : Program} {ops : Array Oper} {rest : List Oper} {o : Oper} {a : Act} {w w' : World} {Q : Exit → Act → World → Prop}
theorem wpList_skip_ran (hg : o.guard = none) (hr : (execOp a.eval o).run P w = .ok .skip w') (h : wpList P ops Q rest (a.put o.dst undef) w') : wpList P ops Q (o :: rest) a w := by
  refine wpList_plain hg fun K hK => ?_
  unfold Oper.wp
  rw [hr]
  exact hK _ _ h
theorem wpList_load_wide (ty : TypeId) {d : TypeDesc} {b : Nat} {t : TypeId} {cs : List Value} (x : Operand) (hb : Box w b t cs) (hu : P.underlying ty = some d) (hd : (match d with | .struct _ | .array _ _ => true | _ => false) = true)
    (hi : (P.info? ty).map (·.size) = some cs.length) (ho : o.op = .load ty x) (hg : o.guard = none) (hx : a.eval x = .pointer (some ⟨b, 0, none⟩)) (h : wpList P ops Q rest (a.put o.dst (.agg cs.toArray)) w) : wpList P ops Q (o :: rest) a w :=
  wpList_ran hg (by simp [execOp, ho, hx, Instr.loadAt, Instr.sureAddr, Sem.run_bind, Result.andThen, run_loadVar_row w b t ty cs.toArray (0, 0) d hb hu hd (by simpa using hi)]) h
theorem Box.setAll {b : Nat} {t : TypeId} : ∀ (vs cs pre : List Value) (w : World), Box w b t (pre ++ cs) → cs.length = vs.length → Box (w.setCells b pre.length vs) b t (pre ++ vs)
  | [], cs, pre, w, hb, hl => by
    obtain rfl : cs = [] := List.eq_nil_of_length_eq_zero hl
    exact hb
  | v :: vs, [], pre, w, hb, hl => by simp at hl
  | v :: vs, c :: cs, pre, w, hb, hl => by
    have h1 := hb.set pre.length v
    rw [List.set_append_right _ _ (Nat.le_refl _), Nat.sub_self, List.set_cons_zero] at h1
    have h2 := Box.setAll vs cs (pre ++ [v]) (w.setCell ⟨b, pre.length, none⟩ v) (by simpa using h1) (by simpa using hl)
    rw [List.length_append, List.append_assoc] at h2
    exact h2
theorem wpList_store_wide (ty : TypeId) {b : Nat} {t : TypeId} {cs vs : List Value} {i : TypeInfo} (x y : Operand) (hb : Box w b t cs) (hi : P.info? ty = some i) (hs : vs.length = i.size) (hc : cs.length = i.size) (h1 : ∀ v ∈ vs, v.oneCell' = true)
    (ho : o.op = .store ty x y) (hg : o.guard = none) (hx : a.eval x = .pointer (some ⟨b, 0, none⟩)) (hy : a.eval y = .agg vs.toArray)
    (h : ∀ w', Box w' b t vs → Keeps (OneB b) w w' → wpList P ops Q rest (a.put o.dst undef) w') : wpList P ops Q (o :: rest) a w := by
  have hr := Lib.rl_storeVar_cells (P := P) ty i hi b 0 vs hs h1 w (fun k hk => by
    rw [hb.reads.1, List.getElem?_eq_getElem (by omega)]; rfl) (fun k hk => by rw [hb.reads.2])
  refine wpList_skip_ran hg (w' := w.setCells b 0 vs) (by simp [execOp, ho, hx, hy, Instr.storeAt, Instr.sureAddr, Result.andThen, hr]) (h _ ?_ ?_)
  · exact Box.setAll vs cs [] w hb (by omega)
  · exact (Keeps.refl _ _).setCells b 0 vs (.inl rfl)
theorem wpList_box_wide (ty : TypeId) {vs : List Value} (x : Operand) (ho : o.op = .box ty x) (hg : o.guard = none) (hx : a.eval x = .agg vs.toArray)
    (h : ∀ w', Box w' w.heap.size ty vs → Ext w w' → w'.heap.size = w.heap.size + 1 → wpList P ops Q rest (a.put o.dst (.pointer (some ⟨w.heap.size, 0, none⟩))) w') : wpList P ops Q (o :: rest) a w :=
  wpList_ran hg (w' := w.alloc (.cells vs.toArray ty)) (by simp [execOp, ho, hx, Instr.box, newVar, newRow, Value.cells, Result.andThen]) (h _ (Box.new _ _ _) ((Keeps.refl _ _).alloc _) (by simp))
theorem wpList_alloc_wide (ty : TypeId) {vs : List Value} (hz : (zeroValue ty).run P w = .ok (.agg vs.toArray) w) (ho : o.op = .alloc ty) (hg : o.guard = none)
    (h : ∀ w', Box w' w.heap.size ty vs → Ext w w' → w'.heap.size = w.heap.size + 1 → wpList P ops Q rest (a.put o.dst (.pointer (some ⟨w.heap.size, 0, none⟩))) w') : wpList P ops Q (o :: rest) a w :=
  wpList_ran hg (w' := w.alloc (.cells vs.toArray ty)) (by simp [execOp, ho, Instr.alloc, hz, newVar, newRow, Value.cells, Result.andThen]) (h _ (Box.new _ _ _) ((Keeps.refl _ _).alloc _) (by simp))
theorem wpList_build_wide (ty : TypeId) {v : Value} {parts : Array (Nat × Operand)} (ho : o.op = .build ty parts) (hg : o.guard = none) (hr : (Instr.build ty (parts.map fun (i, x) => (i, a.eval x))).run P w = .ok v w)
    (h : wpList P ops Q rest (a.put o.dst v) w) : wpList P ops Q (o :: rest) a w :=
  wpList_ran hg (by simp [execOp, ho, hr, Result.andThen]) h
end
end Go.Proofs.YtcfgnbbiljohjaaGreatDoor
end
section
/- Whole blocks as single steps of a walk, over 'Mem'; the things of 'Mem' put in another order. No program is named here. -/
set_option linter.unusedVariables false
set_option linter.unusedSimpArgs false
namespace Go.Proofs.YtcfgnbbiljohjaaGreatDoor
open Go.RowKit
/-- L' are things of L -/
inductive Sub : List Res → List Res → Prop
  | nil {L} : Sub [] L
  | cons {r L L1 L'} : Pick L r L1 → Sub L' L1 → Sub (r :: L') L
theorem Mem.nilL {F : Nat → Prop} {w0 w : World} {L : List Res} (h : Mem F w0 w L) : Mem F w0 w [] := ⟨h.1, fun _ => False, fun _ h => h, fun k h => h.elim⟩
theorem sub_sep {w : World} : ∀ {L L' : List Res} {G : Nat → Prop}, Sub L' L → SepL L G w → ∃ G', SepL L' G' w ∧ ∀ k, G' k → G k
  | L, [], G, _, h => ⟨fun _ => False, fun _ h => h, fun _ h => h.elim⟩
  | L, r :: L', G, .cons p s, h => by
    obtain ⟨A, B, h1, h2, h3, h4⟩ := p.sep h
    obtain ⟨G', g1, g2⟩ := sub_sep s h2
    exact ⟨fun k => A k ∨ G' k, ⟨A, G', h1, g1, fun k hA hG => h3 k hA (g2 k hG), fun k => Iff.rfl⟩, fun k hk => (h4 k).2 (hk.imp id (g2 k))⟩
theorem Mem.sub {F : Nat → Prop} {w0 w : World} {L L' : List Res} (h : Mem F w0 w L) (s : Sub L' L) : Mem F w0 w L' := by
  obtain ⟨a, G, b, c⟩ := h
  obtain ⟨G', g1, g2⟩ := sub_sep s b
  exact ⟨a, G', g1, fun k hk => c k (g2 k hk)⟩
theorem Mem.mem {F : Nat → Prop} {w0 w' : World} {L L' : List Res} (h : Mem F w0 w' L) (k : ∀ w, Mem F w0 w L → Mem F w0 w L') : Mem F w0 w' L' := k _ h
theorem Mem.post {P : Program} {fn : Func} {R : Ending → World → Prop} {e : Exit} {a : Act} {F : Nat → Prop} {w0 w' : World} {L : List Res} (h : Mem F w0 w' L) (k : ∀ w, Mem F w0 w L → bodyPost P fn R e a w) : bodyPost P fn R e a w' := k _ h
section
variable {P : Program} {ops : Array Oper} {rest : List Oper} {o : Oper} {a : Act} {w w0 : World} {Q : Exit → Act → World → Prop} {F : Nat → Prop} {L L' : List Res}
theorem at_load (ty : TypeId) (x : Operand) (ho : o.op = .load ty x) (h : wpList P ops Q (o :: rest) a w) : wpList P ops Q (o :: rest) a w := h
theorem at_store (ty : TypeId) (x y : Operand) (ho : o.op = .store ty x y) (h : wpList P ops Q (o :: rest) a w) : wpList P ops Q (o :: rest) a w := h
theorem at_box (ty : TypeId) (x : Operand) (ho : o.op = .box ty x) (h : wpList P ops Q (o :: rest) a w) : wpList P ops Q (o :: rest) a w := h
theorem at_alloc (ty : TypeId) (ho : o.op = .alloc ty) (h : wpList P ops Q (o :: rest) a w) : wpList P ops Q (o :: rest) a w := h
theorem at_list {l : List Oper} (h : wpList P ops Q l a w) : wpList P ops Q l a w := h
theorem mem_load_wide (ty : TypeId) {d : TypeDesc} {b : Nat} {t : TypeId} {cs : List Value} (x : Operand) (ho : o.op = .load ty x) (hg : o.guard = none) (hx : a.eval x = .pointer (some ⟨b, 0, none⟩)) (h : Mem F w0 w L) (p : Pick L (cellsR b t cs) L')
    (hu : P.underlying ty = some d) (hd : (match d with | .struct _ | .array _ _ => true | _ => false) = true) (hi : (P.info? ty).map (·.size) = some cs.length)
    (k : wpList P ops Q rest (a.put o.dst (.agg cs.toArray)) w) : wpList P ops Q (o :: rest) a w :=
  let ⟨_, hb⟩ := h.get p
  wpList_load_wide ty x hb.2 hu hd hi ho hg hx k
theorem mem_store_wide (ty : TypeId) {b : Nat} {t : TypeId} {cs vs : List Value} (x y : Operand) (ho : o.op = .store ty x y) (hg : o.guard = none) (hx : a.eval x = .pointer (some ⟨b, 0, none⟩)) (hy : a.eval y = .agg vs.toArray) (h : Mem F w0 w L) (p : Pick L (cellsR b t cs) L') {n : Nat}
    (hn : (P.info? ty).map (·.size) = some n) (hs : vs.length = n) (hc : cs.length = n) (h1 : ∀ v ∈ vs, v.oneCell' = true)
    (k : ∀ w', Mem F w0 w' (cellsR b t vs :: L') → wpList P ops Q rest (a.put o.dst undef) w') : wpList P ops Q (o :: rest) a w := by
  obtain ⟨A, hA, hS⟩ := (h.pick p).step
  obtain ⟨i, hi, hin⟩ : ∃ i, P.info? ty = some i ∧ i.size = n := by
    cases h : P.info? ty with
    | none => rw [h] at hn; cases hn
    | some i => rw [h] at hn; exact ⟨i, rfl, by simpa using hn⟩
  subst hin
  refine wpList_store_wide ty x y hA.2 hi hs hc h1 ho hg hx hy fun w' hb hk => k w' (hS (cellsR b t vs) w' ⟨A, ⟨hA.1, hb⟩, hk.mono fun k _ h => (hA.1 k).2 h, fun k hk => .inl hk⟩)
theorem mem_box_wide (ty : TypeId) {vs : List Value} (x : Operand) (ho : o.op = .box ty x) (hg : o.guard = none) (hx : a.eval x = .agg vs.toArray) (h : Mem F w0 w L)
    (k : ∀ w' n, Mem F w0 w' (cellsR n ty vs :: L) → wpList P ops Q rest (a.put o.dst (.pointer (some ⟨n, 0, none⟩))) w') : wpList P ops Q (o :: rest) a w :=
  wpList_box_wide ty x ho hg hx fun w' hb he hs => k w' _ (h.new (G := fun k => k = w.heap.size) he ⟨fun k => Iff.rfl, hb⟩ (fun k hk => by omega))
theorem mem_alloc_wide (ty : TypeId) {vs : List Value} (ho : o.op = .alloc ty) (hg : o.guard = none) (hz : (zeroValue ty).run P w = .ok (.agg vs.toArray) w) (h : Mem F w0 w L)
    (k : ∀ w' n, Mem F w0 w' (cellsR n ty vs :: L) → wpList P ops Q rest (a.put o.dst (.pointer (some ⟨n, 0, none⟩))) w') : wpList P ops Q (o :: rest) a w :=
  wpList_alloc_wide ty hz ho hg fun w' hb he hs => k w' _ (h.new (G := fun k => k = w.heap.size) he ⟨fun k => Iff.rfl, hb⟩ (fun k hk => by omega))
theorem one_set {cs : List Value} (h : ∀ v ∈ cs, v.oneCell' = true) {u : Value} (hu : u.oneCell' = true) (i : Nat) : ∀ v ∈ cs.set i u, v.oneCell' = true := fun v hv => by
  rcases List.mem_or_eq_of_mem_set hv with h1 | rfl
  · exact h v h1
  · exact hu
theorem loadVar_wide (ty : TypeId) {d : TypeDesc} {b : Nat} {t : TypeId} {cs : List Value} (h : Mem F w0 w L) (p : Pick L (cellsR b t cs) L') (hu : P.underlying ty = some d) (hd : (match d with | .struct _ | .array _ _ => true | _ => false) = true)
    (hi : (P.info? ty).map (·.size) = some cs.length) : (loadVar ty ⟨b, 0, none⟩).run P w = .ok (.agg cs.toArray) w := by
  obtain ⟨_, hb⟩ := h.get p
  exact run_loadVar_row w b t ty cs.toArray (0, 0) d hb.2 hu hd (by simpa using hi)
theorem results_ct {fn : Func} {r s : Nat} {ty : TypeId} {v : Value} {ad : Addr} (hr : fn.results = #[.cell r ty, .tmp s]) (tmps : Array Value) (h0 : tmps.getD r undef = .pointer (some ad)) (hl : (loadVar ty ad).run P w = .ok v w) :
    (results fn tmps).run P w = .ok (.tuple #[v, tmps.getD s undef]) w := by
  unfold results
  rw [hr]
  simp only [List.mapM_toArray, List.mapM_cons, List.mapM_nil]
  simp [h0, asAddr, hl, Sem.run_bind, Result.andThen]
theorem results_c {fn : Func} {r : Nat} {ty : TypeId} {v : Value} {ad : Addr} (hr : fn.results = #[.cell r ty]) (tmps : Array Value) (h0 : tmps.getD r undef = .pointer (some ad)) (hl : (loadVar ty ad).run P w = .ok v w) :
    (results fn tmps).run P w = .ok v w := by
  unfold results
  rw [hr]
  simp only [List.mapM_toArray, List.mapM_cons, List.mapM_nil]
  simp [h0, asAddr, hl, Sem.run_bind, Result.andThen]
end
end Go.Proofs.YtcfgnbbiljohjaaGreatDoor
end
section
/- Slices of elements that are owned, as lists (over 'Sep'). No program is named here. -/
set_option linter.unusedVariables false
set_option linter.unusedSimpArgs false
namespace Go.Proofs.YtcfgnbbiljohjaaGreatDoor
open Go.RowKit
/-- how an element lies in cells -/
structure Enc (α : Type) where
  cells : α → List Value
  sz : Nat
  len : ∀ x, (cells x).length = sz
  one : ∀ x, ∀ u ∈ cells x, u.oneCell' = true
def Enc.row {α : Type} (E : Enc α) : List α → List Value
  | [] => []
  | x :: l => E.cells x ++ Enc.row E l
section
variable {α : Type} (E : Enc α)
theorem Enc.row_len : ∀ l : List α, (E.row l).length = l.length * E.sz
  | [] => by simp [Enc.row]
  | x :: l => by rw [Enc.row, List.length_append, E.len, Enc.row_len l, List.length_cons, Nat.add_mul]; omega
theorem Enc.row_append : ∀ l m : List α, E.row (l ++ m) = E.row l ++ E.row m
  | [], m => rfl
  | x :: l, m => by rw [List.cons_append, Enc.row, Enc.row_append l m, Enc.row, List.append_assoc]
theorem Enc.row_one : ∀ l : List α, ∀ u ∈ E.row l, u.oneCell' = true
  | [], u, h => by cases h
  | x :: l, u, h => by
    rcases List.mem_append.1 h with h | h
    · exact E.one x u h
    · exact Enc.row_one l u h
theorem Enc.row_get : ∀ (l : List α) (i j : Nat) (hi : i < l.length), j < E.sz → (E.row l)[i * E.sz + j]? = (E.cells l[i])[j]?
  | x :: l, 0, j, hi, hj => by
    rw [Enc.row, Nat.zero_mul, Nat.zero_add, List.getElem?_append_left (by rw [E.len]; exact hj)]
    rfl
  | x :: l, i + 1, j, hi, hj => by
    have hi' : i < l.length := by simpa using hi
    rw [Enc.row, List.getElem?_append_right (by rw [E.len, Nat.add_mul]; omega), E.len, show (i + 1) * E.sz + j - E.sz = i * E.sz + j by rw [Nat.add_mul]; omega, Enc.row_get l i j hi' hj]
    rfl
/-- a slice of elements, owned -/
def rowR (v : Value) (l : List α) : Res := winR E.sz v l.length (E.row l)
theorem rowR_tag {v : Value} {l : List α} : (rowR E v l).tag = none := rfl
variable {E} {F : Nat → Prop} {w0 w : World} {L : List Res} {v : Value} {l : List α}
theorem Mem.nilRow (h : Mem F w0 w L) : Mem F w0 w (rowR E (.slice none 0 0) [] :: L) :=
  h.new (G := fun _ => False) (Keeps.refl _ _) ⟨fun k => ⟨fun h => h.elim, fun h => by cases h⟩, Win.nil w 0 E.sz⟩ (fun k h => h.elim)
theorem Mem.rowAdd {P : Program} (t tx ty e : TypeId) (i : TypeInfo) (z : Value) (bytes : Nat) (ht : P.underlying t = some (.slice e)) (htx : P.underlying tx = some (.slice e)) (hi : P.info? e = some i) (hz : i.zero = some z)
    (hsize : i.size = E.sz) (hby : i.bytes = bytes) (hzs : z.cells.size = E.sz) (h : Mem F w0 w (rowR E v l :: L)) (b c : Nat) (x : α) (hb : ∀ o, w.cell? ⟨b, o, none⟩ = (E.cells x)[o]?)
    (h63 : l.length + 1 ≤ maxLen) (hbytes : (l.length + 1) * bytes ≤ 140737488355328) :
    ∃ v' w', (Builtin.append_ #[t, tx] ty #[v, .slice (some ⟨b, 0, none⟩) 1 c]).run P w = .ok v' w' ∧ Mem F w0 w' (rowR E v' (l ++ [x]) :: L) := by
  have hsrc : SrcCells w (.slice (some ⟨b, 0, none⟩) 1 c) 1 (E.cells x) := .inr ⟨_, _, rfl, fun j u hu => by
    rw [← hu, ← hb j]
    by_cases hj : j = 0
    · subst hj; rfl
    · simp [Addr.add, hj]⟩
  obtain ⟨v', w', hr, hm⟩ := Mem.append t tx ty e i z E.sz bytes ht hi hz hsize hby hzs h (.slice (some ⟨b, 0, none⟩) 1 c) 1 (E.cells x) (hsrc.toSrc htx (by rw [E.len, Nat.one_mul]) (E.one x)) h63 hbytes
  refine ⟨v', w', hr, ?_⟩
  unfold rowR
  rw [E.row_append, List.length_append, show E.row [x] = E.cells x by rw [Enc.row, Enc.row, List.append_nil]]
  exact hm
/-- what an element's cells read -/
theorem row_cells {A : Nat → Prop} (h : (rowR E v l).p A w) (hl : 0 < l.length) : ∃ g o cap, v = .slice (some ⟨g, o, none⟩) l.length cap ∧ l.length ≤ cap ∧ A g ∧ ∀ (i : Nat) (hi : i < l.length) (j : Nat), j < E.sz → w.cell? ⟨g, o + i * E.sz + j, none⟩ = (E.cells l[i])[j]? := by
  obtain ⟨h1, h2⟩ := h
  obtain ⟨g, o, cap, rfl, -, -, hc, hr⟩ := h2.form hl
  refine ⟨g, o, cap, rfl, hc, (h1 g).2 rfl, fun i hi j hj => ?_⟩
  have hj' : j < (E.cells l[i]).length := by rw [E.len]; exact hj
  have hg : (E.row l)[i * E.sz + j]? = some ((E.cells l[i])[j]) := by rw [E.row_get l i j hi hj, List.getElem?_eq_getElem hj']
  rw [Nat.add_assoc, hr _ _ hg, List.getElem?_eq_getElem hj']
theorem row_len {A : Nat → Prop} (h : (rowR E v l).p A w) : ∃ p c, v = .slice p l.length c := h.2.len
end
end Go.Proofs.YtcfgnbbiljohjaaGreatDoor
end
