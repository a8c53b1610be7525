/- A talk and a judge as things in memory. No condition. -/
import Derived.Test.YthhdgjofagdjeaaDoorJW
import Derived.Test.YthhdgjofagdjeaaDoorSep
set_option linter.unusedVariables false
set_option linter.unusedSimpArgs false
namespace Go.Proofs.YthhdgjofagdjeaaDoor
open Go.RowKit

def talkR (b : Nat) (T : TA) : Res := anyR (fun F w => TalkX w F b T) (fun h hk hs => h.keeps hk hs) (fun h => let ⟨_, h⟩ := h; h.lt)
theorem talkR_tag {b : Nat} {T : TA} : (talkR b T).tag = none := rfl
theorem EnSet.box {w : World} {m : Nat} {D : List En} (h : EnSet w m D) : m < w.heap.size := h.lt
def enR (m : Nat) (D : List En) : Res := anyR (fun F w => (∀ k, F k ↔ k = m) ∧ EnSet w m D) (fun h hk hs => ⟨h.1, h.2.keeps hk (hs m ((h.1 m).2 rfl))⟩) (fun h k hk => by rw [(h.1 k).1 hk]; exact h.2.lt)
theorem enR_tag {m : Nat} {D : List En} : (enR m D).tag = none := rfl
def judgeR (b : Nat) (J : JA) : Res := anyR (fun F w => JudgeX w F b J) (fun h hk hs => h.keeps hk hs) (fun h => let ⟨_, _, _, h⟩ := h; h.lt)
theorem judgeR_tag {b : Nat} {J : JA} : (judgeR b J).tag = none := rfl
section
variable {F G : Nat → Prop} {w0 w : World} {L : List Res} {b tb mb : Nat} {J : JA}
theorem Mem.openJ (h : Mem F w0 w (judgeR b J :: L)) : ∃ x : Nat × Nat, (J.told.length = 9 ∧ J.next.length = 16) ∧ Mem F w0 w (cellsR b 76 (J.cells x.1 x.2) :: talkR x.1 J.T :: enR x.2 J.put :: L) := by
  have hl : J.told.length = 9 ∧ J.next.length = 16 := h.fact fun A ⟨_, _, _, h⟩ => ⟨h.l9, h.l16⟩
  obtain ⟨x, hx⟩ := h.openE (M := fun x : Nat × Nat => [cellsR b 76 (J.cells x.1 x.2), talkR x.1 J.T, enR x.2 J.put]) (fun A ⟨Ft, tb, mb, h⟩ =>
    ⟨(tb, mb), fun k => k = b ∨ Ft k ∨ k = mb, ⟨fun k => k = b, fun k => Ft k ∨ k = mb, ⟨fun _ => Iff.rfl, h.box⟩, ⟨Ft, fun k => k = mb, h.talk, ⟨fun k => k = mb, fun _ => False, ⟨fun _ => Iff.rfl, h.map⟩, fun _ h => h, fun _ _ h => h, fun k => ⟨.inl, fun h => h.resolve_right id⟩⟩, fun k hk h9 => h.nm (by rw [← h9]; exact hk), fun k => Iff.rfl⟩, fun k hk h9 => by
      rcases h9 with h9 | h9
      · exact h.nb (by rw [← hk]; exact h9)
      · exact h.bm (by rw [← hk, ← h9]), fun k => Iff.rfl⟩, fun k hk => by
      rcases hk with rfl | hk | rfl
      · exact h.fb
      · exact h.ft k hk
      · exact h.fm⟩)
  exact ⟨x, hl, hx⟩
theorem Mem.closeJ (h : Mem F w0 w (cellsR b 76 (J.cells tb mb) :: talkR tb J.T :: enR mb J.put :: L)) (h9 : J.told.length = 9) (h16 : J.next.length = 16) : Mem F w0 w (judgeR b J :: L) := by
  refine Mem.close (L1 := [cellsR b 76 (J.cells tb mb), talkR tb J.T, enR mb J.put]) h fun A ⟨B, C, ⟨b1, b2⟩, ⟨D, E, d1, ⟨G, H, ⟨g1, g2⟩, g3, g4, g5⟩, d3, d4⟩, c3, c4⟩ => ?_
  have eA : ∀ k, A k ↔ k = b ∨ D k ∨ k = mb := fun k => by
    rw [c4 k, b1 k, d4 k, g5 k, g1 k]
    constructor
    · rintro (h | h | h | h)
      · exact .inl h
      · exact .inr (.inl h)
      · exact .inr (.inr h)
      · exact (g3 k h).elim
    · rintro (h | h | h)
      · exact .inl h
      · exact .inr (.inl h)
      · exact .inr (.inr (.inl h))
  refine ⟨D, tb, mb, b2, d1, g2, (eA b).2 (.inl rfl), (eA mb).2 (.inr (.inr rfl)), fun k hk => (eA k).2 (.inr (.inl hk)), fun h => c3 b ((b1 b).2 rfl) ((d4 b).2 (.inl h)), fun h => d3 mb h ((g5 mb).2 (.inl ((g1 mb).2 rfl))), fun h => c3 b ((b1 b).2 rfl) ((d4 b).2 (.inr ((g5 b).2 (.inl ((g1 b).2 h))))), fun k hk => ?_, h9, h16⟩
  rcases (eA k).1 hk with rfl | h | rfl
  · exact b2.lt
  · obtain ⟨_, d⟩ := d1
    exact d.lt k h
  · exact g2.lt
theorem Mem.shutJ {L1 L2 L3 : List Res} (h : Mem F w0 w L) (l9 : J.told.length = 9) (l16 : J.next.length = 16) (p1 : Pick L (enR mb J.put) L1) (p2 : Pick L1 (talkR tb J.T) L2) (p3 : Pick L2 (cellsR b 76 (J.cells tb mb)) L3) : Upd F w0 w (judgeR b J) :=
  (Mem.closeJ (((h.pick p1).pick (.there p2)).pick (.there (.there p3))) l9 l16).upd
end
end Go.Proofs.YthhdgjofagdjeaaDoor
