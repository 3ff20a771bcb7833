/-
  Layer 8: what must come of fixed calls.
-/
import Derived.Test.YtfcijfngcplodaaEvT
import Derived.Test.YtfcijfngcplodaaWhole
namespace Go.Proofs.Ytfcijfngcplodaa
open Go.RowKit
theorem known08 (w : World) : Calls Try.prog 5 #[] w fun e w' => e = .returned (.bool true) ∧ Below w.heap.size w w' :=
  Ev.true_ofT (Ev.atN_ok (Ev.atN_ok (Ev.atN_ok (Ev.none_ok _) whole_4) whole_40) whole_400) (k := 300) (n := 60) (by kernel_rfl) w
end Go.Proofs.Ytfcijfngcplodaa
