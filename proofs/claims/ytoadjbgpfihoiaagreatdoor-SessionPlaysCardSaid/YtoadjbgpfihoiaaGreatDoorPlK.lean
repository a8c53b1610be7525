/- Texts Range, Brk, RangeR, one behind the other. Conditions: as each says. -/
import Derived.Test.YtoadjbgpfihoiaaGreatDoorPlJ
import Derived.RangeFuncBound
import Derived.RangeFuncCalls
import Derived.RangeFuncLeaves
import Derived.Shelf.Abstract
import Derived.OrdersIn
import Derived.WalkMore
set_option linter.unusedVariables false
set_option linter.unusedSimpArgs false
set_option maxHeartbeats 8000000
set_option maxRecDepth 100000
namespace Go.Proofs.YtoadjbgpfihoiaaGreatDoor
open Go.RowKit
section
def Mark (w : World) (D : Nat) : Prop := w.heap[D]? = some (.deferred (some []))
def markOf (D : Nat) : Deferred := { target := .collected D, args := #[] }
theorem Mark.keeps {w w' : World} {D : Nat} {S : Nat → Prop} (h : Mark w D) (hk : Keeps S w w') (hs : ¬ S D) : Mark w' D :=
 (hk.block D (Array.getElem?_eq_some_iff.1 h).1 hs).trans h
theorem Mark.lt {w : World} {D : Nat} (h : Mark w D) : D < w.heap.size := (Array.getElem?_eq_some_iff.1 h).1
def IterOK {α : Type} (F : Fence) (n : Nat) (P : Program) (gf : Nat) (lb : Array Value) (xs : List α) (Rv : α → Array Value → World → World → Prop) (S : Nat → Prop) (w0 : World) : Prop :=
 ∀ (l : Nat) (J Jx : Nat → World → Prop) (W : World), w0.heap.size ≤ l →
   (∀ k W, J k W → Keeps S w0 W) → (∀ k W, J k W → w0.heap.size + 1 < W.heap.size) → (∀ k W W', J k W → Ext W W' → J k W') → (∀ k W W', Jx k W → Ext W W' → Jx k W') →
   (∀ k (hk : k < xs.length) v W2 W1, J k W2 → Ext W2 W1 → Rv xs[k] v W2 W1 → YieldAt F (n - 1) P l v W1 fun e W' =>
    (e = .returned (.bool true) ∧ J (k + 1) W') ∨ (e = .returned (.bool false) ∧ Jx (k + 1) W')) →
   J 0 W → CallsIn F n P gf (#[.func (.yield l) #[] #[]] ++ lb) W fun e W' => (∃ v, e = .returned v) ∧ (J xs.length W' ∨ ∃ k, k < xs.length ∧ Jx (k + 1) W')
def RB (S : Nat → Prop) (n : Nat) : Nat → Prop := fun b => (b < n ∧ S b) ∨ n + 2 ≤ b
def roundEnd (S : Nat → Prop) (n : Nat) (I : Nat → World → Prop) (Ix : Code → Nat → World → Prop) (k : Nat) (W : World) : Exit → Act → World → Prop
 | .normal, _, W' => Keeps (RB S n) W W' ∧ I k W'
 | .ret, _, W' => Keeps (RB S n) W W' ∧ Ix .ret k W'
 | .exit id, _, W' => Keeps (RB S n) W W' ∧ Ix (.exit id) k W'
 | .goto t, _, W' => Keeps (RB S n) W W' ∧ Ix (.goto t) k W'
 | .panic _, _, _ => False
 | .outgrown, _, _ => False
section
variable {F : Fence} {n : Nat} {P : Program}
theorem wpIn_range {α : Type} {g : Operand} {ps : Array Tmp} {assign body : Code} {Q : Exit → Act → World → Prop} {a : Act} {w : World}
 (hro : F.round = none) (h1 : 1 ≤ n) {gf : Nat} {lb : Array Value} (hg : a.eval g = .func (.func gf) #[] lb) (hFg : F.fn gf) (eg : ∀ args w, (callFunc gf args).run P w = .ok (.enter gf args) w)
 {xs : List α} {Rv : α → Array Value → World → World → Prop} {S : Nat → Prop} (hiter : IterOK F (n - 1) P gf lb xs Rv S w) (hps : ∀ x v W0 W, Rv x v W0 W → v.size = ps.size)
 (I : Nat → World → Prop) (Ix : Code → Nat → World → Prop) (hIk : ∀ k W, I k W → Keeps S w W)
 (hI : ∀ k W W', I k W → Keeps (OneB (w.heap.size + 1)) W W' → I k W') (hIx : ∀ c k W W', Ix c k W → Keeps (OneB (w.heap.size + 1)) W W' → Ix c k W') (h0 : I 0 w)
 (hround : ∀ k (hk : k < xs.length) v W0 W, I k W0 → Ext W0 W → I k W → Rv xs[k] v W0 W → w.heap.size + 1 < W0.heap.size → w.heap.size + 1 < W.heap.size →
  assign.wpIn (F.inRound (w.heap.size + 1)) (n - 1 - 1) P (Exit.then (fun a' W' => Keeps (RB S w.heap.size) W W' ∧
   ∀ W2, Keeps (OneB (w.heap.size + 1)) W' W2 → body.wpIn (F.inRound (w.heap.size + 1)) (n - 1 - 1) P (roundEnd S w.heap.size I Ix (k + 1) W2) a' W2) (fun _ _ _ => False))
   { tmps := (ps.zip v).foldl (fun t (p, v) => t.setIfInBounds p v) a.tmps, defers := [] } W)
 (hdone : ∀ W, I xs.length W → Mark W w.heap.size → Q .normal { a with defers := markOf w.heap.size :: a.defers } W)
 (hstop : ∀ c k W, k < xs.length → Ix c (k + 1) W → Mark W w.heap.size → c.wpIn F n P Q { a with defers := markOf w.heap.size :: a.defers } W) :
 (Code.rangeFunc g ps assign body).wpIn F n P Q a w := by
 refine wpIn_rangeFunc ?_; intro fn hfn; rw [hro]; obtain ⟨rec, hrec⟩ : ∃ rec : LoopState → Option Code → Loop, rec = fun st pe => { state := st, pending := pe, fn, tmps := a.tmps, params := ps, assign, body, defers := w.heap.size } := ⟨_, rfl⟩
 obtain ⟨W1, hW1⟩ : ∃ W1, (w.alloc (.deferred (some []))).alloc (.loop (rec .ready none)) = W1 := ⟨_, rfl⟩
 have hL1 : W1.heap[w.heap.size + 1]? = some (.loop (rec .ready none)) := by
  rw [← hW1]; have := World.alloc_heap_new (w.alloc (.deferred (some []))) (.loop (rec .ready none)); rwa [World.size_alloc] at this
 have hK1 : Mark W1 w.heap.size := by
  rw [← hW1]; exact (Below.heap_alloc _ _ _ (by simp)).trans (World.alloc_heap_new w _)
 have hE1 : Ext w W1 := by rw [← hW1]; exact ((Keeps.refl _ w).alloc _).alloc _
 have hI1 : I 0 W1 := hI 0 w W1 h0 (Ext.keeps hE1); have hDL : ¬ OneB (w.heap.size + 1) w.heap.size := by unfold OneB; omega
 have put1 : ∀ (W : World) (o : Obj), Keeps (OneB (w.heap.size + 1)) W (W.putObj (w.heap.size + 1) o) := fun W o => (Keeps.refl _ W).putObj _ o (.inl rfl)
 have nL : ¬ RB S w.heap.size (w.heap.size + 1) := by unfold RB; omega
 have nD : ¬ RB S w.heap.size w.heap.size := by unfold RB; omega
 refine ⟨w.heap.size + 1, [markOf w.heap.size], W1, { target := .fn (.func gf) lb, args := #[.func (.yield (w.heap.size + 1)) #[] #[]] }, W1, gf,
  #[.func (.yield (w.heap.size + 1)) #[] #[]] ++ lb, W1, ?_, ?_, ?_, ?_, fun _ => h1, ?_⟩
 · rw [← hW1, hrec]; exact run_enterLoop_outer _ _ _ _ _
 · simp only [resolve, hg]
   simp [go_sem]
 · intro f' hf'; simp [Target.leads] at hf'; subst hf'; exact hFg
 · simp [invoke, go_sem, eg]
 · refine (hiter (w.heap.size + 1)
    (fun k W => I k W ∧ W.heap[w.heap.size + 1]? = some (.loop (rec .ready none)) ∧ Mark W w.heap.size)
    (fun k W => ∃ c, Ix c k W ∧ W.heap[w.heap.size + 1]? = some (.loop (rec .done (some c))) ∧ Mark W w.heap.size)
    W1 (by omega) (fun k W h => hIk k W h.1) (fun k W h => (Array.getElem?_eq_some_iff.1 h.2.1).1)
    (fun k W W' h he => ⟨hI k W W' h.1 (Ext.keeps he), (he.block _ (Array.getElem?_eq_some_iff.1 h.2.1).1 (noB _)).trans h.2.1, h.2.2.keeps he (noB _)⟩)
    (fun k W W' h he => by
     obtain ⟨c, h1, h2, h3⟩ := h; exact ⟨c, hIx c k W W' h1 (Ext.keeps he), (he.block _ (Array.getElem?_eq_some_iff.1 h2).1 (noB _)).trans h2, h3.keeps he (noB _)⟩)
    ?_ ⟨hI1, hL1, hK1⟩).mono ?_
   · rintro k hk v W0 W ⟨hi0, hl0, hm0⟩ hE0 hv
     have hi : I k W := hI k W0 W hi0 (Ext.keeps hE0); have hlt0 : w.heap.size + 1 < W0.heap.size := (Array.getElem?_eq_some_iff.1 hl0).1; have hl := (hE0.block _ hlt0 (noB _)).trans hl0; have hm : Mark W w.heap.size := hm0.keeps hE0 (noB _); have hlt : w.heap.size + 1 < W.heap.size := (Array.getElem?_eq_some_iff.1 hl).1; have hy := run_yield (P := P) (args := v) hl (by rw [hrec]; exact hps _ _ _ _ hv); rw [hrec] at hy; refine ⟨fn, _, assign, body, hy, roundIn_of_wpIn hfn (wpIn_mono (hround k hk v W0 W hi0 hE0 hi hv hlt0 hlt) ?_)⟩; rintro e a' Wa hp; cases e with
     | normal =>
       obtain ⟨hka, hbody⟩ := hp; have hla : Wa.heap[w.heap.size + 1]? = some (.loop (rec .ready none)) := (hka.block _ hlt nL).trans hl; have hma : Mark Wa w.heap.size := hm.keeps hka nD; have hlta : w.heap.size + 1 < Wa.heap.size := (Array.getElem?_eq_some_iff.1 hla).1; refine ⟨_, run_beginRound hla (by rw [hrec]), ?_⟩; have hl2 : (Wa.putObj (w.heap.size + 1) (.loop { rec .ready none with state := .busy })).heap[w.heap.size + 1]? = some (.loop { rec .ready none with state := .busy }) := World.putObj_heap_same hlta; have hm2 : Mark (Wa.putObj (w.heap.size + 1) (.loop { rec .ready none with state := .busy })) w.heap.size := hma.keeps (put1 _ _) hDL; refine wpIn_mono (hbody _ (put1 _ _)) ?_
       have fin : ∀ (jump : Option Code) (W3 : World), Keeps (RB S w.heap.size) (Wa.putObj (w.heap.size + 1) (.loop { rec .ready none with state := .busy })) W3 →
        (Instr.endRound (w.heap.size + 1) jump).run P W3 = .ok (.bool jump.isNone) (W3.putObj (w.heap.size + 1) (.loop (rec (if jump.isNone then .ready else .done) jump))) ∧
        (W3.putObj (w.heap.size + 1) (.loop (rec (if jump.isNone then .ready else .done) jump))).heap[w.heap.size + 1]? = some (.loop (rec (if jump.isNone then .ready else .done) jump)) ∧
        Mark (W3.putObj (w.heap.size + 1) (.loop (rec (if jump.isNone then .ready else .done) jump))) w.heap.size := fun jump W3 hk3 => by
        have hl3 := (hk3.block _ (Array.getElem?_eq_some_iff.1 hl2).1 nL).trans hl2; have := run_endRound (P := P) jump hl3; rw [hrec] at this ⊢; exact ⟨this, World.putObj_heap_same (Array.getElem?_eq_some_iff.1 hl3).1, (hm2.keeps hk3 nD).keeps (put1 _ _) hDL⟩
       rintro e a3 W3 hp; cases e with
       | normal =>
         obtain ⟨hk3, hi3⟩ := hp; obtain ⟨hr, hl4, hm4⟩ := fin none W3 hk3; exact ⟨_, _, hr, .inl ⟨rfl, hI _ _ _ hi3 (put1 _ _), hl4, hm4⟩⟩
       | ret =>
         obtain ⟨hk3, hi3⟩ := hp; obtain ⟨hr, hl4, hm4⟩ := fin (some .ret) W3 hk3; exact ⟨_, _, hr, .inr ⟨rfl, .ret, hIx _ _ _ _ hi3 (put1 _ _), hl4, hm4⟩⟩
       | exit id =>
         obtain ⟨hk3, hi3⟩ := hp; obtain ⟨hr, hl4, hm4⟩ := fin (some (.exit id)) W3 hk3; exact ⟨_, _, hr, .inr ⟨rfl, .exit id, hIx _ _ _ _ hi3 (put1 _ _), hl4, hm4⟩⟩
       | goto t =>
         obtain ⟨hk3, hi3⟩ := hp; obtain ⟨hr, hl4, hm4⟩ := fin (some (.goto t)) W3 hk3; exact ⟨_, _, hr, .inr ⟨rfl, .goto t, hIx _ _ _ _ hi3 (put1 _ _), hl4, hm4⟩⟩
       | panic ch => exact hp.elim
       | outgrown => exact hp.elim
     | ret => exact hp.elim
     | exit id => exact hp.elim
     | goto t => exact hp.elim
     | panic ch => exact hp.elim
     | outgrown => exact hp.elim
   · rintro e W2 ⟨⟨v, rfl⟩, (⟨hi, hl, hm⟩ | ⟨k, hk, c, hi, hl, hm⟩)⟩
     · exact ⟨none, _, by have := run_endLoop (P := P) hl (by rw [hrec]; simp); rw [hrec] at this; exact this, hdone _ (hI _ _ _ hi (put1 _ _)) (hm.keeps (put1 _ _) hDL)⟩
     · exact ⟨some c, _, by have := run_endLoop (P := P) hl (by rw [hrec]; simp); rw [hrec] at this; exact this, hstop c k _ hk (hIx _ _ _ _ hi (put1 _ _)) (hm.keeps (put1 _ _) hDL)⟩
theorem leaves_marks {fn : Func} {tmps : Array Value} {R : Ending → World → Prop} : ∀ (Ds : List Nat) (w : World), Ds.Nodup → (∀ D, D ∈ Ds → Mark w D) →
 (∀ w', Keeps (fun b => b ∈ Ds) w w' → ∃ v, (results fn tmps).run P w' = .ok v w' ∧ R (.returned v) w') → LeavesInM F n P fn tmps R (Ds.map markOf) .returning w
 | [], w, _, _, h => by
   obtain ⟨v, h1, h2⟩ := h w (Keeps.refl _ _); exact ⟨v, h1, h2⟩
 | D :: Ds, w, hn, hm, h => by
   have hD := hm D (by simp); refine ⟨by simp, .inl ⟨D, _, rfl, run_takeDeferred hD, ?_⟩⟩; have hp : Keeps (OneB D) w (w.putObj D (.deferred none)) := (Keeps.refl _ w).putObj _ _ (.inl rfl); have hnd := List.nodup_cons.1 hn; refine leaves_marks Ds _ hnd.2 (fun E hE => (hm E (by simp [hE])).keeps hp (fun e => hnd.1 (by rw [← show E = D from e]; exact hE))) ?_; intro w' hk; exact h w' ((hp.mono (T := fun b => b ∈ D :: Ds) fun k _ hk => by rw [show k = D from hk]; simp).then hk fun i _ hi => by simp [hi])
end
section
variable {P : Program} {Q : Exit → Act → World → Prop} {n : Nat}
def noDefer (l : List Oper) : Bool := l.all fun o => match o.op with | .defer _ => false | _ => true
theorem noDefer_spec {l : List Oper} (h : noDefer l = true) {o : Oper} (ho : o ∈ l) : ∀ c, o.op ≠ .defer c := by
 intro c hc; have := List.all_eq_true.1 h o ho; rw [hc] at this; cases this
theorem calls_inRound {r : Nat} {f : FuncId} {args : Array Value} {w : World} {R : Ending → World → Prop} (h : Calls P f args w R) : CallsIn (Fence.wide.inRound r) n P f args w R :=
 CallsIn.inRound r (callsIn_wide.2 h)
theorem rows_inRound {r : Nat} {row : String} {args : Array Value} {w : World} {R : Value → World → Prop} (h : Rows P row args w R) : RowsIn (Fence.wide.inRound r) n P row args w R :=
 fun c cs _ => let ⟨v, w', h1, h2⟩ := h c cs; ⟨v, w', h1, stepsIn_wide.2 h2⟩
theorem wpIn_of_wp {o : Oper} {r : Nat} {a : Act} {w : World} {K : Act → World → Prop} (hd : ∀ c, o.op ≠ .defer c) (h : o.wp P a w K Q) : o.wpIn (Fence.wide.inRound r) n P a w K Q := by
 refine ⟨fun _ _ => trivial, ?_⟩; rw [Oper.semAt_plain _ _ _ hd]; unfold Oper.wp at h; generalize (execOp a.eval o).run P w = q at *
 cases q with
 | ok x w' =>
   cases x <;> simp only [Oper.upon] at h <;> simp only [Oper.uponIn]
   case value u => exact h
   case skip => exact h
   case defer d => exact h
   case enter f args => exact ⟨fun h => by simp [Fence.wide] at h, calls_inRound h⟩
   case row row args => exact ⟨fun h => by simp [Fence.wide] at h, rows_inRound h⟩
 | halt x w' =>
   cases x <;> simp only [Oper.upon] at h <;> simp only [Oper.uponIn]
   case panic u => exact h
theorem opsIn_of_ops {l : List Oper} {r : Nat} (hd : noDefer l = true) (hout : ¬ LetsOut Q) : ∀ (is : List Nat) (a : Act) (w : World), wpOps P l.toArray Q is a w → wpOpsIn (Fence.wide.inRound r) n P l.toArray Q is a w
 | [], _, _, h => h
 | i :: is, a, w, h => by
   simp only [wpOps] at h; simp only [wpOpsIn]; cases ho : l.toArray[i]? with
   | none => simp only [ho] at h ⊢; exact opsIn_of_ops hd hout is a w h
   | some o =>
     simp only [ho] at h ⊢
     have hm : o ∈ l := by
      have := Array.mem_of_getElem? ho; simpa using this
     split
     · rename_i hw
       rw [if_pos hw] at h; rcases h with h | h
       · exact Oper.wpIn_mono (fun a w h => opsIn_of_ops hd hout is a w h) (wpIn_of_wp (noDefer_spec hd hm) h)
       · exact (hout h.2).elim
     · rename_i hw
       rw [if_neg hw] at h; exact ⟨fun _ _ => trivial, opsIn_of_ops hd hout is _ w h⟩
theorem wpIn_region_plan {id r : Nat} {a : Act} {w : World} {l : List Oper} (pl : List (Nat × Nat)) (ls es tl : List Nat) (C : World → Prop) (hd : noDefer l = true) (hout : ¬ LetsOut Q) (hm : P.follows .mixedOrders = true) (hs : Region.noSelect l.toArray = true)
 (hp : planOK .any l.toArray ls es tl (Array.replicate l.toArray.size false) pl = true) (hl : pl.length + tl.length = l.toArray.size) (hmap : tl.map (l.toArray[·]?) = (tailL l.toArray tl).map some) (hC : C w.drew)
 (hQ : ∀ c a w d v, Q (.panic c) (Act.put a d v) w → Q (.panic c) a w)
 (h : Pl P l.toArray Q C (wpList P l.toArray Q (tailL l.toArray tl)) (planL l.toArray pl) a w.drew) : (Code.region id l.toArray true).wpIn (Fence.wide.inRound r) n P Q a w := by
 refine wpIn_region_draw fun t => opsIn_of_ops hd hout _ _ _ ?_
 have ha : wpAny P .any l.toArray Q l.toArray.size (Array.replicate l.toArray.size false) a w.drew := by
  refine wpAny_of_T (C := C) (ls := ls) _ _ _ _ (plan_sound hs (fun c a w o v _ => hQ c a w o.dst v) tl _ hmap pl _ _ a _ hp hl ?_ hC h.out); intro j o ho hj; exfalso
  revert hj
  rw [Array.getD_eq_getD_getElem?, Array.getElem?_replicate]; split <;> simp
 simp only [Region.schedule, hm, Bool.true_or, if_true]; exact wpAny_sound _ _ _ _ _ ha
end
theorem wpIn_scope {P : Program} {Q : Exit → Act → World → Prop} {n : Nat} {c : Code} {a : Act} {w : World} (h : c.wpIn Fence.wide n P (Exit.noGoto Q) a w) : (Code.scope c).wpIn Fence.wide n P Q a w :=
 wpIn_wide.2 (wp_scope_straight (wpIn_wide.1 h))
end
section
theorem Mark.ext {w w' : World} {D : Nat} (h : Mark w D) (hk : Ext w w') : Mark w' D := h.keeps hk (noB _)
section
variable {F : Fence} {n : Nat} {P : Program}
end
end
section
instance gl10 (F : Fence) (n : Nat) (P : Program) (c : Code) (Q : Exit → Act → World → Prop) (a : Act) (w : World) : Gl (c.wpIn F n P Q a w) (fun w => c.wpIn F n P Q a w) w := ⟨id⟩
instance gl11 (F : Fence) (n : Nat) (P : Program) (fn : Func) (R : Ending → World → Prop) (e : Exit) (a : Act) (w : World) : Gl (bodyPostM F n P fn R e a w) (fun w => bodyPostM F n P fn R e a w) w := ⟨id⟩
def markR (D : Nat) : Res := anyR (fun F w => (∀ k, F k ↔ k = D) ∧ Mark w D) (fun h hk hs => ⟨h.1, h.2.keeps hk (hs D ((h.1 D).2 rfl))⟩) (fun h k hk => by rw [(h.1 k).1 hk]; exact h.2.lt)
def recR (L : Nat) (o : Loop) : Res := anyR (fun F w => (∀ k, F k ↔ k = L) ∧ w.heap[L]? = some (.loop o)) (fun h hk hs => ⟨h.1, (hk.block L (Array.getElem?_eq_some_iff.1 h.2).1 (hs L ((h.1 L).2 rfl))).trans h.2⟩)
 (fun h k hk => by rw [(h.1 k).1 hk]; exact (Array.getElem?_eq_some_iff.1 h.2).1)
def allR (L : List Res) : Res := anyR (fun F w => SepL L F w) (fun h hk hs => h.keeps hk hs) (fun h => h.lt)
def someR {α : Type} (R : α → Res) : Res := anyR (fun F w => ∃ c, (R c).p F w) (fun ⟨c, h⟩ hk hs => ⟨c, Res.keeps _ h hk hs⟩) (fun ⟨c, h⟩ => Res.lt _ h)
structure RvOK {α : Type} (Rv : α → Array Value → (Nat → Prop) → World → Prop) : Prop where
 step : ∀ {x v F G w w'}, Rv x v F w → Keeps F w w' → (∀ k, G k → F k ∨ w.heap.size ≤ k) → Rv x v G w'
def In (A : Nat → Prop) (W : World) (F : Nat → Prop) (w : World) : Prop := Keeps A W w ∧ ∀ j, F j → A j ∨ W.heap.size ≤ j
theorem In.trans {A C F : Nat → Prop} {W w2 w3 : World} (h : In A W C w2) (k : In C w2 F w3) : In A W F w3 :=
 ⟨h.1.then k.1 fun i hi hC => (h.2 i hC).elim id fun g => absurd g (by omega), fun j hj => (k.2 j hj).elim (h.2 j) fun g => .inr (Nat.le_trans h.1.size g)⟩
structure XOK (X : (Nat → Prop) → World → Prop) : Prop where
 step : ∀ {A A' w w'}, X A w → Keeps A w w' → (∀ k, A' k → A k ∨ w.heap.size ≤ k) → X A' w'
def NoX : (Nat → Prop) → World → Prop := fun _ _ => True
theorem noX_ok : XOK NoX := ⟨fun _ _ _ => trivial⟩
def IterR {α : Type} (F : Fence) (n : Nat) (P : Program) (gf : Nat) (lb : Array Value) (xs : List α) (Rv : α → Array Value → (Nat → Prop) → World → Prop) (X : (Nat → Prop) → World → Prop) (Q Q' : Res) : Prop :=
 ∀ (l : Nat) (R Rx : Nat → Res) (W : World) (A : Nat → Prop), SepL [Q, R 0] A W → X A W →
   (∀ k (hk : k < xs.length) v W1 F1, In A W F1 W1 → (R k).p F1 W1 → Rv xs[k] v F1 W1 → YieldAt F (n - 1) P l v W1 fun e W' =>
    (e = .returned (.bool true) ∧ Upd F1 W1 W' (R (k + 1))) ∨ (e = .returned (.bool false) ∧ Upd F1 W1 W' (Rx (k + 1)))) →
   CallsIn F n P gf (#[.func (.yield l) #[] #[]] ++ lb) W fun e W' => (∃ v, e = .returned v) ∧ ∃ r : Res, (r = R xs.length ∨ ∃ k, k < xs.length ∧ r = Rx (k + 1)) ∧ Upd A W W' (allR [Q', r])
def roundEndR (F1 : Nat → Prop) (W : World) (R : Nat → Res) (Rx : Code → Nat → Res) (k : Nat) : Exit → Act → World → Prop
 | .normal, _, W' => Upd F1 W W' (R k)
 | .ret, _, W' => Upd F1 W W' (Rx .ret k)
 | .exit id, _, W' => Upd F1 W W' (Rx (.exit id) k)
 | .goto t, _, W' => Upd F1 W W' (Rx (.goto t) k)
 | .panic _, _, _ => False
 | .outgrown, _, _ => False
theorem Res.congr (r : Res) {F G : Nat → Prop} {w : World} (h : r.p F w) (hg : ∀ k, G k ↔ F k) : r.p G w := by
 have : G = F := funext fun k => propext (hg k)
 rw [this]; exact h
section
variable {F : Fence} {n : Nat} {P : Program}
theorem wpIn_rangeR {α : Type} {g : Operand} {ps : Array Tmp} {assign body : Code} {K : Exit → Act → World → Prop} {a : Act} {w : World} {A : Nat → Prop}
 (hro : F.round = none) (h1 : 1 ≤ n) {gf : Nat} {lb : Array Value} (hg : a.eval g = .func (.func gf) #[] lb) (hFg : F.fn gf) (eg : ∀ args w, (callFunc gf args).run P w = .ok (.enter gf args) w)
 {xs : List α} {Rv : α → Array Value → (Nat → Prop) → World → Prop} (hrv : RvOK Rv) {X : (Nat → Prop) → World → Prop} (hxo : XOK X) {Q Q' : Res} (hiter : IterR F (n - 1) P gf lb xs Rv X Q Q') (hps : ∀ x v F W, Rv x v F W → v.size = ps.size)
 (R : Nat → Res) (Rx : Code → Nat → Res) (h0 : SepL [Q, R 0] A w) (hx0 : X A w)
 (hround : ∀ k (hk : k < xs.length) v F1 W, In A w F1 W → (R k).p F1 W → Rv xs[k] v F1 W → w.heap.size + 1 < W.heap.size →
  assign.wpIn (F.inRound (w.heap.size + 1)) (n - 1 - 1) P (Exit.then (fun a' W' => ∃ r2 : Res, Upd F1 W W' r2 ∧
   ∀ F2 W2, In A w F2 W2 → r2.p F2 W2 → Rv xs[k] v F2 W2 → w.heap.size + 1 < W2.heap.size → body.wpIn (F.inRound (w.heap.size + 1)) (n - 1 - 1) P (roundEndR F2 W2 R Rx (k + 1)) a' W2) (fun _ _ _ => False))
   { tmps := (ps.zip v).foldl (fun t (p, v) => t.setIfInBounds p v) a.tmps, defers := [] } W)
 (hdone : ∀ W, Upd A w W (allR [Q', R xs.length, markR w.heap.size]) → K .normal { a with defers := markOf w.heap.size :: a.defers } W)
 (hstop : ∀ c k W, k < xs.length → Upd A w W (allR [Q', Rx c (k + 1), markR w.heap.size]) → c.wpIn F n P K { a with defers := markOf w.heap.size :: a.defers } W) :
 (Code.rangeFunc g ps assign body).wpIn F n P K a w := by
 refine wpIn_rangeFunc ?_; intro fn hfn; rw [hro]; obtain ⟨rec, hrec⟩ : ∃ rec : LoopState → Option Code → Loop, rec = fun st pe => { state := st, pending := pe, fn, tmps := a.tmps, params := ps, assign, body, defers := w.heap.size } := ⟨_, rfl⟩
 obtain ⟨W1, hW1⟩ : ∃ W1, (w.alloc (.deferred (some []))).alloc (.loop (rec .ready none)) = W1 := ⟨_, rfl⟩; obtain ⟨D, hD⟩ : ∃ D, w.heap.size = D := ⟨_, rfl⟩; obtain ⟨L, hL⟩ : ∃ L, w.heap.size + 1 = L := ⟨_, rfl⟩; have hLD : L = D + 1 := by omega
 have hL1 : W1.heap[L]? = some (.loop (rec .ready none)) := by
  rw [← hW1, ← hL]; have := World.alloc_heap_new (w.alloc (.deferred (some []))) (.loop (rec .ready none)); rwa [World.size_alloc] at this
 have hK1 : Mark W1 D := by
  rw [← hW1, ← hD]; exact (Below.heap_alloc _ _ _ (by simp)).trans (World.alloc_heap_new w _)
 have hE1 : Ext w W1 := by rw [← hW1]; exact ((Keeps.refl _ w).alloc _).alloc _
 have put1 : ∀ (W : World) (o : Obj), Keeps (OneB L) W (W.putObj L o) := fun W o => (Keeps.refl _ W).putObj _ o (.inl rfl)
 have hAlt : ∀ k, A k → k < w.heap.size := h0.lt
 -- the things of the loop within
 obtain ⟨R1, hR1⟩ : ∃ R1 : Nat → Res, R1 = fun k => allR [R k, markR D, recR L (rec .ready none)] := ⟨_, rfl⟩
 obtain ⟨R2, hR2⟩ : ∃ R2 : Nat → Res, R2 = fun k => someR fun c => allR [Rx c k, markR D, recR L (rec .done (some c))] := ⟨_, rfl⟩
 have h0' : SepL [Q, R1 0] (fun k => A k ∨ k = D ∨ k = L) W1 := by
  obtain ⟨B, C, b1, ⟨B2, C2, b5, b6, b7, b8⟩, b3, b4⟩ := h0; have hB2 : ∀ k, B2 k → k < w.heap.size := Res.lt _ b5; have hBl : ∀ k, B k → k < w.heap.size := Res.lt _ b1; refine ⟨B, fun k => C k ∨ k = D ∨ k = L, Res.keeps _ b1 hE1 (fun _ _ => noB _), ⟨fun k => C k ∨ k = D ∨ k = L, fun _ => False, ?_, fun k h => h, fun _ _ h => h, fun k => by simp⟩, fun k hB hC => ?_, fun k => ?_⟩
  · rw [hR1]
    refine ⟨C, fun k => k = D ∨ k = L, Res.congr _ (Res.keeps _ b5 hE1 (fun _ _ => noB _)) (fun k => by rw [b8]; exact ⟨fun h => h.resolve_right (b6 k), .inl⟩), ⟨fun k => k = D, fun k => k = L, ⟨fun k => Iff.rfl, hK1⟩, ⟨fun k => k = L, fun _ => False, ⟨fun k => Iff.rfl, hL1⟩, fun k h => h, fun _ _ h => h, fun k => by simp⟩, fun k h h' => by omega, fun k => Iff.rfl⟩, fun k hC h => ?_, fun k => by simp⟩; have hC' : B2 k := ((b8 k).1 hC).resolve_right (b6 k); have := hB2 k hC'; omega
  · rcases hC with hC | hC | hC
    · exact b3 k hB hC
    · have := hBl k hB; omega
    · have := hBl k hB; omega
  · show (A k ∨ k = D ∨ k = L) ↔ B k ∨ (C k ∨ k = D ∨ k = L)
    rw [b4]; constructor
    · rintro ((h | h) | h)
      · exact .inl h
      · exact .inr (.inl h)
      · exact .inr (.inr h)
    · rintro (h | h | h)
      · exact .inl (.inl h)
      · exact .inl (.inr h)
      · exact .inr h
 have hA1 : ∀ k, (A k ∨ k = D ∨ k = L) → A k ∨ w.heap.size ≤ k := fun k h => by
  rcases h with h | h | h
  · exact .inl h
  · exact .inr (by omega)
  · exact .inr (by omega)
 -- what ends a loop
 have fin : ∀ {o : Loop} {r : Res} {W2 : World}, Upd (fun k => A k ∨ k = D ∨ k = L) W1 W2 (allR [Q', allR [r, markR D, recR L o]]) → W2.heap[L]? = some (.loop o) ∧ ∀ o' : Obj, Upd A w (W2.putObj L o') (allR [Q', r, markR D]) := fun {o r W2} hU => by
  obtain ⟨G, hs, hk, hg⟩ := hU; obtain ⟨B, C, b1, ⟨B2, C2, b5, b6, b7, b8⟩, b3, b4⟩ := hs; obtain ⟨E1, E2, e1, ⟨E3, E4, e3, ⟨E5, E6, e5, e6, e7, e8⟩, e9, e10⟩, e11, e12⟩ := b5; have hL5 : ∀ k, E5 k ↔ k = L := e5.1; have hD3 : ∀ k, E3 k ↔ k = D := e3.1; have hl : W2.heap[L]? = some (.loop o) := e5.2; have hLE1 : ¬ E1 L := fun h => e11 L h ((e10 L).2 (.inr ((e8 L).2 (.inl ((hL5 L).2 rfl)))))
  have hLB2 : B2 L := (e12 L).2 (.inr ((e10 L).2 (.inr ((e8 L).2 (.inl ((hL5 L).2 rfl)))))); have hLB : ¬ B L := fun h => b3 L h ((b8 L).2 (.inl hLB2))
  have hDE1 : ¬ E1 D := fun h => e11 D h ((e10 D).2 (.inl ((hD3 D).2 rfl)))
  have hDB2 : B2 D := (e12 D).2 (.inr ((e10 D).2 (.inl ((hD3 D).2 rfl)))); have hDB : ¬ B D := fun h => b3 D h ((b8 D).2 (.inl hDB2))
  refine ⟨hl, fun o' => ?_⟩; have hp := put1 W2 o'; refine ⟨fun k => B k ∨ E1 k ∨ k = D, ⟨B, fun k => E1 k ∨ k = D, Res.keeps _ b1 hp (fun k hB h => by rw [show k = L from h] at hB; exact hLB hB), ⟨E1, fun k => k = D, Res.keeps _ e1 hp (fun k hB h => by rw [show k = L from h] at hB; exact hLE1 hB), ⟨fun k => k = D, fun _ => False, ⟨fun k => Iff.rfl, e3.2.keeps hp (by unfold OneB; omega)⟩, fun k h => h, fun _ _ h => h, fun k => by simp⟩, fun k h h' => by rw [h'] at h; exact hDE1 h, fun k => Iff.rfl⟩, fun k h h' => ?_, fun k => Iff.rfl⟩, ?_, fun k hk2 => ?_⟩
  · rcases h' with h' | h'
    · exact b3 k h ((b8 k).2 (.inl ((e12 k).2 (.inl h'))))
    · rw [h'] at h; exact hDB h
  · have h3 : Keeps A w W2 := (Ext.keeps hE1).then (hk.mono (T := fun k => A k ∨ k = D ∨ k = L) fun _ _ h => h) fun i hi h => by
     rcases h with h | h | h
     · exact h
     · omega
     · omega
    exact h3.then hp fun i hi h => by
     have : i = L := h; omega
  · have : G k := (b4 k).2 (by
     rcases hk2 with h | h | h
     · exact .inl h
     · exact .inr ((b8 k).2 (.inl ((e12 k).2 (.inl h))))
     · exact .inr ((b8 k).2 (.inl (by rw [h]; exact hDB2))))
    rcases hg k this with h | h
    · exact hA1 k h
    · have := hE1.size; exact .inr (by omega)
 refine ⟨L, [markOf D], W1, { target := .fn (.func gf) lb, args := #[.func (.yield L) #[] #[]] }, W1, gf,
  #[.func (.yield L) #[] #[]] ++ lb, W1, ?_, ?_, ?_, ?_, fun _ => h1, ?_⟩
 · rw [← hW1, hrec, ← hL, ← hD]; exact run_enterLoop_outer _ _ _ _ _
 · simp only [resolve, hg]
   simp [go_sem]
 · intro f' hf'; simp [Target.leads] at hf'; subst hf'; exact hFg
 · simp [invoke, go_sem, eg]
 · refine (hiter L R1 R2 W1 _ h0' (hxo.step hx0 (Ext.keeps hE1) hA1) ?_).mono ?_
   · intro k hk v W F1 ⟨hK0, hF0⟩ hR hv
     rw [hR1] at hR; obtain ⟨B2, C2, b5, ⟨E3, E4, e3, ⟨E5, E6, e5, e6, e7, e8⟩, e9, e10⟩, b7, b8⟩ := hR; have hL5 : ∀ k, E5 k ↔ k = L := e5.1; have hD3 : ∀ k, E3 k ↔ k = D := e3.1; have hl : W.heap[L]? = some (.loop (rec .ready none)) := e5.2; have hm : Mark W D := e3.2; have hE4L : E4 L := (e8 L).2 (.inl ((hL5 L).2 rfl))
     have hC2 : ∀ k, C2 k ↔ k = D ∨ k = L := fun k => by
      rw [e10, hD3, e8, hL5]; constructor
      · rintro (h | h | h)
        · exact .inl h
        · exact .inr h
        · exact (e6 k h).elim
      · rintro (h | h)
        · exact .inl h
        · exact .inr (.inl h)
     have hLB : ¬ B2 L := fun h => b7 L h ((hC2 L).2 (.inr rfl))
     have hDB : ¬ B2 D := fun h => b7 D h ((hC2 D).2 (.inl rfl))
     have hlt : L < W.heap.size := (Array.getElem?_eq_some_iff.1 hl).1; have hF1 : ∀ k, F1 k ↔ B2 k ∨ k = D ∨ k = L := fun k => by rw [b8, hC2]
     have hlt' : w.heap.size + 1 < W.heap.size := by omega
     have hKW : Keeps A w W := (Ext.keeps hE1).then (hK0.mono (T := fun k => A k ∨ k = D ∨ k = L) fun _ _ h => h) fun i hi h => by
      rcases h with h | h | h
      · exact h
      · omega
      · omega
     have hFW : ∀ j, B2 j → A j ∨ w.heap.size ≤ j := fun j hj => (hF0 j ((hF1 j).2 (.inl hj))).elim (hA1 j) fun h => .inr (by have := hE1.size; omega)
     have hv2 : Rv xs[k] v B2 W := hrv.step hv (Keeps.refl _ _) fun i h => .inl ((hF1 i).2 (.inl h))
     have hy := run_yield (P := P) (args := v) hl (by rw [hrec]; exact hps _ _ _ _ hv); rw [hrec] at hy; refine ⟨fn, _, assign, body, hy, roundIn_of_wpIn hfn (wpIn_mono (by rw [← hL]; exact hround k hk v B2 W ⟨hKW, hFW⟩ b5 hv2 hlt') ?_)⟩; rintro e a' Wa hp; cases e with
     | normal =>
       obtain ⟨r2, ⟨G2, g1, g2, g3⟩, hbody⟩ := hp; have hLG : ¬ G2 L := fun h => (g3 L h).elim hLB (by omega)
       have hDG : ¬ G2 D := fun h => (g3 D h).elim hDB (by omega)
       have hla : Wa.heap[L]? = some (.loop (rec .ready none)) := (g2.block L hlt hLB).trans hl; have hma : Mark Wa D := hm.keeps g2 hDB; have hlta : L < Wa.heap.size := (Array.getElem?_eq_some_iff.1 hla).1; refine ⟨_, run_beginRound hla (by rw [hrec]), ?_⟩; obtain ⟨Wb, hWb⟩ : ∃ Wb, Wa.putObj L (.loop { rec .ready none with state := .busy }) = Wb := ⟨_, rfl⟩; have hkb : Keeps (OneB L) Wa Wb := by rw [← hWb]; exact put1 _ _
       have hl2 : Wb.heap[L]? = some (.loop { rec .ready none with state := .busy }) := by rw [← hWb]; exact World.putObj_heap_same hlta
       have hm2 : Mark Wb D := hma.keeps hkb (by unfold OneB; omega); have hR2b : r2.p G2 Wb := Res.keeps _ g1 hkb (fun i h h' => by rw [show i = L from h'] at h; exact hLG h); have hk2 : Keeps F1 W Wb := (g2.mono (T := F1) fun i _ h => (hF1 i).2 (.inl h)).then hkb fun i _ h => (hF1 i).2 (.inr (.inr h))
       have hvb : Rv xs[k] v G2 Wb := hrv.step hv hk2 fun i h => (g3 i h).elim (fun h => .inl ((hF1 i).2 (.inl h))) .inr
       have hltb : L < Wb.heap.size := (Array.getElem?_eq_some_iff.1 hl2).1; have hIn : In A w G2 Wb := ⟨(hKW.then g2 fun i hi h => (hFW i h).elim id fun g => absurd g (by omega)).then hkb fun i hi h => (by have : i = L := h; omega), fun i h => (g3 i h).elim (hFW i) fun g => .inr (Nat.le_trans hKW.size g)⟩; rw [show Wa.putObj L (.loop { rec .ready none with state := .busy }) = Wb from hWb]; refine wpIn_mono (by rw [← hL]; exact hbody G2 Wb hIn hR2b hvb (by omega)) ?_
       have finR : ∀ (jump : Option Code) (W3 : World) (r : Res), Upd G2 Wb W3 r →
        (Instr.endRound L jump).run P W3 = .ok (.bool jump.isNone) (W3.putObj L (.loop (rec (if jump.isNone then .ready else .done) jump))) ∧
        Upd F1 W (W3.putObj L (.loop (rec (if jump.isNone then .ready else .done) jump))) (allR [r, markR D, recR L (rec (if jump.isNone then .ready else .done) jump)]) := fun jump W3 r hU => by
        obtain ⟨G, u1, u2, u3⟩ := hU; have hl3 := (u2.block _ hltb hLG).trans hl2; have hm3 : Mark W3 D := hm2.keeps u2 hDG; have hGL : ¬ G L := fun h => (u3 L h).elim hLG (by omega)
        have hGD : ¬ G D := fun h => (u3 D h).elim hDG (by omega)
        have := run_endRound (P := P) jump hl3; rw [hrec] at this ⊢; refine ⟨this, fun i => G i ∨ i = D ∨ i = L, ⟨G, fun i => i = D ∨ i = L, Res.keeps _ u1 (put1 _ _) (fun i h h' => by rw [show i = L from h'] at h; exact hGL h), ⟨fun i => i = D, fun i => i = L, ⟨fun i => Iff.rfl, hm3.keeps (put1 _ _) (by unfold OneB; omega)⟩, ⟨fun i => i = L, fun _ => False, ⟨fun i => Iff.rfl, World.putObj_heap_same (Array.getElem?_eq_some_iff.1 hl3).1⟩, fun i h => h, fun _ _ h => h, fun i => by simp⟩, fun i h h' => by omega, fun i => Iff.rfl⟩, fun i h h' => ?_, fun i => Iff.rfl⟩, ?_, fun i h => ?_⟩
        · rcases h' with h' | h'
          · rw [h'] at h; exact hGD h
          · rw [h'] at h; exact hGL h
        · have k2 : Keeps F1 W W3 := hk2.then u2 fun i hi h => (g3 i h).elim (fun h => (hF1 i).2 (.inl h)) fun g => absurd g (by omega)
          exact k2.then (put1 _ _) fun i _ h => (hF1 i).2 (.inr (.inr h))
        · rcases h with h | h
          · rcases u3 i h with h | h
            · rcases g3 i h with h | h
              · exact .inl ((hF1 i).2 (.inl h))
              · exact .inr h
            · have := hk2.size; exact .inr (by omega)
          · exact .inl ((hF1 i).2 (.inr h))
       rintro e a3 W3 hp; cases e with
       | normal =>
         obtain ⟨hr, hu⟩ := finR none W3 _ hp; exact ⟨_, _, hr, .inl ⟨rfl, by rw [hR1]; exact hu⟩⟩
       | ret =>
         obtain ⟨hr, G, hu⟩ := finR (some .ret) W3 _ hp; exact ⟨_, _, hr, .inr ⟨rfl, G, by rw [hR2]; exact ⟨⟨.ret, hu.1⟩, hu.2⟩⟩⟩
       | exit id =>
         obtain ⟨hr, G, hu⟩ := finR (some (.exit id)) W3 _ hp; exact ⟨_, _, hr, .inr ⟨rfl, G, by rw [hR2]; exact ⟨⟨.exit id, hu.1⟩, hu.2⟩⟩⟩
       | goto t =>
         obtain ⟨hr, G, hu⟩ := finR (some (.goto t)) W3 _ hp; exact ⟨_, _, hr, .inr ⟨rfl, G, by rw [hR2]; exact ⟨⟨.goto t, hu.1⟩, hu.2⟩⟩⟩
       | panic ch => exact hp.elim
       | outgrown => exact hp.elim
     | ret => exact hp.elim
     | exit id => exact hp.elim
     | goto t => exact hp.elim
     | panic ch => exact hp.elim
     | outgrown => exact hp.elim
   · rintro e W2 ⟨⟨v, rfl⟩, r, (rfl | ⟨k, hk, rfl⟩), hU⟩
     · rw [hR1] at hU
       obtain ⟨hl, hf⟩ := fin hU; exact ⟨none, _, by have := run_endLoop (P := P) hl (by rw [hrec]; simp); rw [hrec] at this; exact this, by rw [← hD] at hf; rw [← hD]; exact hdone _ (hf _)⟩
     · rw [hR2] at hU
       obtain ⟨G, ⟨B, C, b1, ⟨B2, C2, ⟨c, b5⟩, b6, b7, b8⟩, b3, b4⟩, hu⟩ := hU; obtain ⟨hl, hf⟩ := fin (o := rec .done (some c)) (r := Rx c (k + 1)) ⟨G, ⟨B, C, b1, ⟨B2, C2, b5, b6, b7, b8⟩, b3, b4⟩, hu⟩; exact ⟨some c, _, by have := run_endLoop (P := P) hl (by rw [hrec]; simp); rw [hrec] at this; exact this, by rw [← hD] at hf; rw [← hD]; exact hstop c k _ hk (hf _)⟩
end
def condR (φ : Prop) (r : Res) : Res := anyR (fun F w => φ ∧ r.p F w) (fun h hk hs => ⟨h.1, Res.keeps _ h.2 hk hs⟩) (fun h => Res.lt _ h.2)
def roundEndB (F1 : Nat → Prop) (W : World) (id : Nat) (R Rx : Nat → Res) (k : Nat) : Exit → Act → World → Prop := roundEndR F1 W R (fun c k => condR (c = .exit id) (Rx k)) k
section
variable {F : Fence} {n : Nat} {P : Program}
theorem wpIn_rangeR_break {α : Type} {g : Operand} {ps : Array Tmp} {assign body : Code} {K : Exit → Act → World → Prop} {a : Act} {w : World} {A : Nat → Prop} {id : Nat}
 (hro : F.round = none) (h1 : 1 ≤ n) {gf : Nat} {lb : Array Value} (hg : a.eval g = .func (.func gf) #[] lb) (hFg : F.fn gf) (eg : ∀ args w, (callFunc gf args).run P w = .ok (.enter gf args) w)
 {xs : List α} {Rv : α → Array Value → (Nat → Prop) → World → Prop} (hrv : RvOK Rv) {X : (Nat → Prop) → World → Prop} (hxo : XOK X) {Q Q' : Res} (hiter : IterR F (n - 1) P gf lb xs Rv X Q Q') (hps : ∀ x v F W, Rv x v F W → v.size = ps.size)
 (R Rx : Nat → Res) (h0 : SepL [Q, R 0] A w) (hx0 : X A w)
 (hround : ∀ k (hk : k < xs.length) v F1 W, In A w F1 W → (R k).p F1 W → Rv xs[k] v F1 W → w.heap.size + 1 < W.heap.size →
  assign.wpIn (F.inRound (w.heap.size + 1)) (n - 1 - 1) P (Exit.then (fun a' W' => ∃ r2 : Res, Upd F1 W W' r2 ∧
   ∀ F2 W2, In A w F2 W2 → r2.p F2 W2 → Rv xs[k] v F2 W2 → w.heap.size + 1 < W2.heap.size → body.wpIn (F.inRound (w.heap.size + 1)) (n - 1 - 1) P (roundEndB F2 W2 id R Rx (k + 1)) a' W2) (fun _ _ _ => False))
   { tmps := (ps.zip v).foldl (fun t (p, v) => t.setIfInBounds p v) a.tmps, defers := [] } W)
 (hend : ∀ W (r : Res), (r = R xs.length ∨ ∃ k, k < xs.length ∧ r = Rx (k + 1)) → Upd A w W (allR [Q', r, markR w.heap.size]) → Exit.inBlock id K .normal { a with defers := markOf w.heap.size :: a.defers } W) :
 (Code.rangeFunc g ps assign body).wpIn F n P (Exit.inBlock id K) a w :=
 wpIn_rangeR hro h1 hg hFg eg hrv hxo hiter hps R (fun c k => condR (c = .exit id) (Rx k)) h0 hx0 hround
  (fun W hU => hend W _ (.inl rfl) hU)
  (fun c k W hk hU => by
   obtain ⟨G, ⟨B, C, b1, ⟨B2, C2, ⟨rfl, b5⟩, b6, b7, b8⟩, b3, b4⟩, hu⟩ := hU; refine wpIn_exit ?_; have := hend W _ (.inr ⟨k, hk, rfl⟩) ⟨G, ⟨B, C, b1, ⟨B2, C2, b5, b6, b7, b8⟩, b3, b4⟩, hu⟩; simpa [Exit.inBlock] using this)
end
theorem roundIn_any {P : Program} {n m r l : Nat} {f : FuncId} {tmps : Array Value} {assign body : Code} {w : World} {R : Ending → World → Prop} (h : RoundIn Fence.wide n P l f tmps assign body w R) : RoundIn (Fence.wide.inRound r) m P l f tmps assign body w R :=
 ⟨h.1, fun c cs _ => h.2 c cs (room_wide _)⟩
theorem roundIn_wide {P : Program} {n m l : Nat} {f : FuncId} {tmps : Array Value} {assign body : Code} {w : World} {R : Ending → World → Prop} (h : RoundIn Fence.wide n P l f tmps assign body w R) : RoundIn Fence.wide m P l f tmps assign body w R :=
 ⟨h.1, fun c cs _ => h.2 c cs (room_wide _)⟩
theorem Mem.beside {F : Nat → Prop} {w0 w : World} {L L1 L2 : List Res} {r x : Res} (h : Mem F w0 w L) (p : Pick L r L1) (q : Pick L1 x L2) :
 ∃ A B, r.p A w ∧ x.p B w ∧ (∀ k, B k → ¬ A k) ∧ In F w0 A w ∧ ∀ (r' : Res) (w' : World), Upd A w w' r' → Mem F w0 w' (r' :: L1) := by
 obtain ⟨a, G, ⟨A, B, h1, h2, h3, h4⟩, c⟩ := h.pick p; obtain ⟨C, D, h5, h6, h7, h8⟩ := q.sep h2; have hA := fun k hk => c k ((h4 k).2 (.inl hk))
 have hB := fun k hk => c k ((h4 k).2 (.inr hk))
 have hlt := h2.lt; refine ⟨A, C, h1, h5, fun k hC hA => h3 k hA ((h8 k).2 (.inl hC)), ⟨a, hA⟩, fun r' w' ⟨A', u1, u2, u3⟩ => ?_⟩; refine ⟨a.then u2 fun i hi h => ?_, fun k => A' k ∨ B k, ⟨A', B, u1, h2.keeps u2 fun k hk hA' => h3 k hA' hk, fun k h5 h6 => ?_, fun k => Iff.rfl⟩, fun k hk => ?_⟩
 · rcases hA i h with h | h
   · exact h
   · omega
 · rcases u3 k h5 with h | h
   · exact h3 k h h6
   · have := hlt k h6; omega
 · rcases hk with hk | hk
   · rcases u3 k hk with h | h
     · exact hA k h
     · have := a.size; exact .inr (by omega)
   · exact hB k hk
theorem Mem.ofSep {F : Nat → Prop} {w : World} {L : List Res} (h : SepL L F w) : Mem F w w L := ⟨Keeps.refl _ _, F, h, fun k hk => .inl hk⟩
theorem Mem.updAll {F : Nat → Prop} {w0 w : World} {L : List Res} (h : Mem F w0 w L) : Upd F w0 w (allR L) := let ⟨a, G, b, c⟩ := h; ⟨G, b, a, c⟩
theorem Mem.unall {F : Nat → Prop} {w0 w : World} {L L1 : List Res} (h : Mem F w0 w (allR L1 :: L)) : Mem F w0 w (L1 ++ L) := h.open fun A hA => ⟨A, hA, fun _ h => h⟩
theorem Mem.stepN {F : Nat → Prop} {w0 w : World} {L1 L : List Res} (h : Mem F w0 w (L1 ++ L)) : ∃ A, SepL L1 A w ∧ In F w0 A w ∧ ∀ (r' : Res) (w' : World), Upd A w w' r' → Mem F w0 w' (r' :: L) := by
 have hm := h.close (r := allR L1) fun _ hA => hA
 obtain ⟨A, h1, h2, h3⟩ := hm.step'; exact ⟨A, h1, ⟨hm.keepsTo, h2⟩, h3⟩
theorem Mem.stepIn {F : Nat → Prop} {w0 w : World} {L : List Res} {r : Res} (h : Mem F w0 w (r :: L)) : ∃ A, r.p A w ∧ In F w0 A w ∧ ∀ (r' : Res) (w' : World), Upd A w w' r' → Mem F w0 w' (r' :: L) := by
 obtain ⟨A, h1, h2, h3⟩ := h.step'; exact ⟨A, h1, ⟨h.keepsTo, h2⟩, h3⟩
theorem yieldAt_wide {P : Program} {n m l : Nat} {v : Array Value} {w : World} {R : Ending → World → Prop} (h : YieldAt Fence.wide n P l v w R) : YieldAt Fence.wide m P l v w R :=
 let ⟨fn, tmps, assign, body, h1, h2⟩ := h
 ⟨fn, tmps, assign, body, h1, roundIn_wide h2⟩
theorem IterR.wide {α : Type} {P : Program} {n m gf : Nat} {lb : Array Value} {xs : List α} {Rv : α → Array Value → (Nat → Prop) → World → Prop} {X : (Nat → Prop) → World → Prop} {Q Q' : Res} (h : IterR Fence.wide n P gf lb xs Rv X Q Q') : IterR Fence.wide m P gf lb xs Rv X Q Q' :=
 fun l R Rx W A h0 hx hr => callsIn_wide.2 (callsIn_wide.1 (h l R Rx W A h0 hx fun k hk v W1 F1 h1 h2 h3 => yieldAt_wide (hr k hk v W1 F1 h1 h2 h3)))
theorem Mem.unmark {F : Nat → Prop} {w0 w w' : World} {L : List Res} {D : Nat} (h : Mem F w0 w (markR D :: L)) (hk : Keeps (fun b => b ∈ [D]) w w') : Mem F w0 w' L := by
 obtain ⟨a, G, ⟨A, B, h1, h2, h3, h4⟩, c⟩ := h; have hD : A D := (h1.1 D).2 rfl; have hk' : Keeps (OneB D) w w' := hk.mono fun k _ h => List.mem_singleton.1 h
 refine ⟨a.then hk' fun i hi h => ?_, B, h2.keeps hk' fun k hB h => ?_, fun k hB => c k ((h4 k).2 (.inr hB))⟩
 · rcases c D ((h4 D).2 (.inl hD)) with h5 | h5
   · rw [show i = D from h]; exact h5
   · have : i = D := h
     omega
 · rw [show k = D from h] at hB; exact h3 D hD hB
theorem Mem.mark {F : Nat → Prop} {w0 w : World} {L : List Res} {D : Nat} (h : Mem F w0 w (markR D :: L)) : ∀ E, E ∈ [D] → Mark w E := fun E hE => by
 obtain ⟨A, hA⟩ := h.get (L' := L) .here; rw [List.mem_singleton.1 hE]; exact hA.2
theorem SepL.one {r : Res} {A : Nat → Prop} {w : World} (h : r.p A w) : SepL [r] A w := ⟨A, fun _ => False, h, fun _ h => h, fun _ _ h => h, fun k => ⟨.inl, fun h => h.resolve_right id⟩⟩
theorem Mem.unsome {F : Nat → Prop} {w0 w : World} {L : List Res} {α : Type} {R : α → Res} (h : Mem F w0 w (someR R :: L)) : ∃ c, Mem F w0 w (R c :: L) :=
 h.openE (M := fun c => [R c]) fun A hA => let ⟨c, h⟩ := hA; ⟨c, A, SepL.one h, fun _ h => h⟩
end
end Go.Proofs.YtoadjbgpfihoiaaGreatDoor
