/- A range over a function whose rounds leave it by one break alone: both ways meet behind it. No program is named here. -/
import Derived.Test.YtdiogipdcpiffaaRange
set_option linter.unusedVariables false
namespace Go.Proofs.Ytdiogipdcpiffaa
open Go.RowKit
theorem Mark.ext {w w' : World} {D : Nat} (h : Mark w D) (hk : Ext w w') : Mark w' D := h.keeps hk (noB _)
section
variable {F : Fence} {n : Nat} {P : Program}
theorem wpIn_range_break {α : Type} {g : Operand} {ps : Array Tmp} {assign body : Code} {Q : Exit → Act → World → Prop} {a : Act} {w : World} {id : Nat}
    (hro : F.round = none) (h1 : 1 ≤ n) {gf : Nat} {lb : Array Value} (hg : a.eval g = .func (.func gf) #[] lb) (hFg : F.fn gf) (eg : ∀ args w, (callFunc gf args).run P w = .ok (.enter gf args) w)
    {xs : List α} {Rv : α → Array Value → World → World → Prop} {S : Nat → Prop} (hiter : IterOK F (n - 1) P gf lb xs Rv S w) (hps : ∀ x v W0 W, Rv x v W0 W → v.size = ps.size)
    (I : Nat → World → Prop) (Ix : Nat → World → Prop) (hIk : ∀ k W, I k W → Keeps S w W)
    (hI : ∀ k W W', I k W → Keeps (OneB (w.heap.size + 1)) W W' → I k W') (hIx : ∀ k W W', Ix k W → Keeps (OneB (w.heap.size + 1)) W W' → Ix k W') (h0 : I 0 w)
    (hround : ∀ k (hk : k < xs.length) v W0 W, I k W0 → Ext W0 W → I k W → Rv xs[k] v W0 W → w.heap.size + 1 < W0.heap.size → w.heap.size + 1 < W.heap.size →
      assign.wpIn (F.inRound (w.heap.size + 1)) (n - 1 - 1) P (Exit.then (fun a' W' => Keeps (RB S w.heap.size) W W' ∧
        ∀ W2, Keeps (OneB (w.heap.size + 1)) W' W2 → body.wpIn (F.inRound (w.heap.size + 1)) (n - 1 - 1) P (roundEnd S w.heap.size I (fun c k W => c = .exit id ∧ Ix k W) (k + 1) W2) a' W2) (fun _ _ _ => False))
        { tmps := (ps.zip v).foldl (fun t (p, v) => t.setIfInBounds p v) a.tmps, defers := [] } W)
    (hend : ∀ W, (I xs.length W ∨ ∃ k, k < xs.length ∧ Ix (k + 1) W) → Mark W w.heap.size → Exit.inBlock id Q .normal { a with defers := markOf w.heap.size :: a.defers } W) :
    (Code.rangeFunc g ps assign body).wpIn F n P (Exit.inBlock id Q) a w :=
  wpIn_range hro h1 hg hFg eg hiter hps I (fun c k W => c = .exit id ∧ Ix k W) hIk hI (fun c k W W' h hk => ⟨h.1, hIx k W W' h.2 hk⟩) h0 hround
    (fun W h hm => hend W (.inl h) hm)
    (fun c k W hk h hm => by
      obtain ⟨rfl, h⟩ := h
      refine wpIn_exit ?_
      have := hend W (.inr ⟨k, hk, h⟩) hm
      simpa [Exit.inBlock] using this)
end
end Go.Proofs.Ytdiogipdcpiffaa
