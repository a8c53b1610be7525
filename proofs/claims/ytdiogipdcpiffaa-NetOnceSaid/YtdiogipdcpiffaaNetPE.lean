/- The walk of NetOnce, joined. -/
import Derived.Test.YtdiogipdcpiffaaNetPA
import Derived.Test.YtdiogipdcpiffaaNetPB
import Derived.Test.YtdiogipdcpiffaaNetPC
import Derived.Test.YtdiogipdcpiffaaNetPD
set_option linter.unusedVariables false
set_option maxHeartbeats 400000
set_option maxRecDepth 10000
namespace Go.Proofs.Ytdiogipdcpiffaa
open Go.RowKit

theorem once_in {A : Nat → Prop} (w : World) (v : Value) (l : List Ac) (h : Acts w A v l) (hok : ∀ x ∈ l, x.ok) (hn : l.length ≤ 9223372036854775807) (hb : ∀ x ∈ l, x.bytes.length ≤ 9223372036854775807) (hf : fewOf l 50 = true) (hA : ∀ k, A k → k < w.heap.size) :
    Calls Try.prog 6 #[v] w fun e w' => e = .returned (.bool true) ∧ Ext w w' :=
  (once_cut w v l (Lib.hid h) (Lib.hid hok) hn (Lib.hid hb) hf (Lib.hid hA)).go (once_arm0 w v l (Lib.hid h) (Lib.hid hok) hn (Lib.hid hb) hf (Lib.hid hA)) (once_arm1 w v l (Lib.hid h) (Lib.hid hok) hn (Lib.hid hb) hf (Lib.hid hA)) (once_arm2 w v l (Lib.hid h) (Lib.hid hok) hn (Lib.hid hb) hf (Lib.hid hA)) (once_arm3 w v l (Lib.hid h) (Lib.hid hok) hn (Lib.hid hb) hf (Lib.hid hA)) (once_arm4 w v l (Lib.hid h) (Lib.hid hok) hn (Lib.hid hb) hf (Lib.hid hA)) (once_arm5 w v l (Lib.hid h) (Lib.hid hok) hn (Lib.hid hb) hf (Lib.hid hA))
end Go.Proofs.Ytdiogipdcpiffaa
