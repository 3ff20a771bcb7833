/-
  Layer 7: what must come of fixed calls.
-/
import Derived.Test.YtijmldgdcknbnaaEvUse
namespace Go.Proofs.Ytijmldgdcknbnaa
open Go.RowKit
theorem known07 (w : World) : Calls Try.prog 10 #[] w fun e w' => e = .returned (.bool true) ∧ Below w.heap.size w w' :=
  Ev.true_of (k := 300) (n := 60) (by kernel_rfl) w
end Go.Proofs.Ytijmldgdcknbnaa
