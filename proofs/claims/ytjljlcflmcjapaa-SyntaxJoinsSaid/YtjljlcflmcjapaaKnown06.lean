/-
  Layer 6: what must come of fixed calls.
-/
import Derived.Test.YtjljlcflmcjapaaEvUse
namespace Go.Proofs.Ytjljlcflmcjapaa
open Go.RowKit
theorem known06 (w : World) : Calls Try.prog 26 #[] w fun e w' => e = .returned (.bool true) ∧ Below w.heap.size w w' :=
  Ev.true_of (k := 400) (n := 60) (by kernel_rfl) w
end Go.Proofs.Ytjljlcflmcjapaa
