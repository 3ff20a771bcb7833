/-
  Contracts of holder.Measure and of its reference.
-/
import Derived.Test.YtjljlcflmcjapaaFix
namespace Go.Proofs.Ytjljlcflmcjapaa
open Go.RowKit Pl
set_option linter.unusedVariables false

set_option maxHeartbeats 1000000 in
theorem meas_p (k n d font a b : Int) (s : ByteArray) (w : World) :
    Calls Try.prog 65 #[.agg #[.int .i64 k, .int .i64 n, .int .i64 d, .string s], .int .i64 font, .int .i64 a, .int .i64 b] w fun e w' =>
      e = .returned (.int .i64 (meas k n d font a b)) ∧ Below w.heap.size w w' := by
  go_enter Try.func65, Try.ntmps65
  go_wp2_with (first
      | (go_at_call 100; refine (hold_p _ _).mono ?_; rintro e w' ⟨rfl, rfl⟩)
      | (go_at_call 102; refine (px_p _ _).mono ?_; rintro e w' ⟨rfl, rfl⟩)
      | (go_at_call 104; refine (percent_p _ _ _).mono ?_; rintro e w' ⟨rfl, rfl⟩)
      | (go_at_call 103; refine (part_p _ _ _ _).mono ?_; rintro e w' ⟨rfl, rfl⟩))
  all_goals
    go_ret
    refine ⟨ret_int ?_, (Below.refl _ _).alloc (Nat.le_refl _) _⟩
    simp_all [meas]
    try (congr 1; omega)

end Go.Proofs.Ytjljlcflmcjapaa
