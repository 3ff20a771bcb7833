/-
  Contracts of layer 1 (fix) and of its reference: held numbers, quotients, parts.
-/
import Derived.Test.YtedooldplfjodaaProg
import Derived.Test.YtedooldplfjodaaBase
import Derived.Test.YtedooldplfjodaaPlain
namespace Go.Proofs.Ytedooldplfjodaa
open Go.RowKit Pl
set_option linter.unusedVariables false

theorem hold_p (x : Int) (w : World) : Calls Try.prog 80 #[.int .i64 x] w fun e w' => e = .returned (.int .i64 (hold x)) ∧ w = w' := by
  go_enter Try.func80, Try.ntmps80
  go_wp2
  all_goals
    go_ret
    exact ⟨ret_int (by unfold hold; omega), rfl⟩

theorem hold_r (x : Int) (w : World) : Calls Try.prog 78 #[.int .i64 x] w fun e w' => e = .returned (.int .i64 (hold x)) ∧ w = w' := by
  go_enter Try.func78, Try.ntmps78
  go_wp2
  all_goals
    go_ret
    exact ⟨ret_int (by unfold hold; omega), rfl⟩

end Go.Proofs.Ytedooldplfjodaa
