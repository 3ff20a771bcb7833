/-
  Layer 16: what must come of fixed calls.
-/
import Derived.Test.YtijmldgdcknbnaaGreatEvUse
namespace Go.Proofs.YtijmldgdcknbnaaGreat
open Go.RowKit
theorem known16 (w : World) : Calls Tryz.prog 6 #[] w fun e w' => e = .returned (.bool true) ∧ Below w.heap.size w w' :=
  Ev.true_of (k := 400) (n := 60) (by kernel_rfl) w
end Go.Proofs.YtijmldgdcknbnaaGreat
