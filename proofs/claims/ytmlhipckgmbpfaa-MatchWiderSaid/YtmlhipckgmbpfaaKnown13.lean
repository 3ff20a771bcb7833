/-
  Layer 13: what must come of fixed calls.
-/
import Derived.Test.YtmlhipckgmbpfaaEvRd
namespace Go.Proofs.Ytmlhipckgmbpfaa
open Go.RowKit
theorem known13 (w : World) : Calls Try.prog 6 #[] w fun e w' => e = .returned (.bool true) ∧ Below w.heap.size w w' :=
  Ev.true_ofT Ev.picksT_ok (k := 300) (n := 60) (by kernel_rfl) w
end Go.Proofs.Ytmlhipckgmbpfaa
