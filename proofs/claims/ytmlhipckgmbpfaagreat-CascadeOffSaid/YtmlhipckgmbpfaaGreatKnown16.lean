/-
  Layer 16: what must come of fixed calls.
-/
import Derived.Test.YtmlhipckgmbpfaaGreatEvUse
namespace Go.Proofs.YtmlhipckgmbpfaaGreat
open Go.RowKit
theorem known16 (w : World) : Calls Tryz.prog 7 #[] w fun e w' => e = .returned (.bool true) ∧ Below w.heap.size w w' :=
  Ev.true_of (k := 400) (n := 60) (by kernel_rfl) w
end Go.Proofs.YtmlhipckgmbpfaaGreat
