/-
  Contracts of layer 1 (fix) and of its reference: held numbers, quotients, parts.
-/
import Derived.Test.YtfcijfngcplodaaProg
import Derived.Test.YtfcijfngcplodaaBase
import Derived.Test.YtfcijfngcplodaaPlain
namespace Go.Proofs.Ytfcijfngcplodaa
open Go.RowKit Pl
set_option linter.unusedVariables false

theorem hold_p (x : Int) (w : World) : Calls Try.prog 82 #[.int .i64 x] w fun e w' => e = .returned (.int .i64 (hold x)) ∧ w = w' := by
  go_enter Try.func82, Try.ntmps82
  go_wp2
  all_goals
    go_ret
    exact ⟨ret_int (by unfold hold; omega), rfl⟩

theorem hold_r (x : Int) (w : World) : Calls Try.prog 68 #[.int .i64 x] w fun e w' => e = .returned (.int .i64 (hold x)) ∧ w = w' := by
  go_enter Try.func68, Try.ntmps68
  go_wp2
  all_goals
    go_ret
    exact ⟨ret_int (by unfold hold; omega), rfl⟩

end Go.Proofs.Ytfcijfngcplodaa
