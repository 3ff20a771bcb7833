/-
  Contracts of holder.Measure and of its reference.
-/
import Derived.Test.YtckokehpdgjacaaFix
namespace Go.Proofs.Ytckokehpdgjacaa
open Go.RowKit Pl
set_option linter.unusedVariables false

set_option maxHeartbeats 1000000 in
theorem meas_p (k n d font a b : Int) (s : ByteArray) (w : World) :
    Calls Try.prog 18 #[.agg #[.int .i64 k, .int .i64 n, .int .i64 d, .string s], .int .i64 font, .int .i64 a, .int .i64 b] w fun e w' =>
      e = .returned (.int .i64 (meas k n d font a b)) ∧ Below w.heap.size w w' := by
  go_enter Try.func18, Try.ntmps18
  go_wp2_with (first
      | (go_at_call 53; refine (hold_p _ _).mono ?_; rintro e w' ⟨rfl, rfl⟩)
      | (go_at_call 57; refine (px_p _ _).mono ?_; rintro e w' ⟨rfl, rfl⟩)
      | (go_at_call 59; refine (percent_p _ _ _).mono ?_; rintro e w' ⟨rfl, rfl⟩)
      | (go_at_call 58; refine (part_p _ _ _ _).mono ?_; rintro e w' ⟨rfl, rfl⟩))
  all_goals
    go_ret
    refine ⟨ret_int ?_, (Below.refl _ _).alloc (Nat.le_refl _) _⟩
    simp_all [meas]
    try (congr 1; omega)

set_option maxHeartbeats 1000000 in
theorem meas_r (k n d font a b : Int) (s : ByteArray) (w : World) :
    Calls Try.prog 19 #[.agg #[.int .i64 k, .int .i64 n, .int .i64 d, .string s], .int .i64 font, .int .i64 a, .int .i64 b] w fun e w' =>
      e = .returned (.int .i64 (meas k n d font a b)) ∧ Below w.heap.size w w' := by
  go_enter Try.func19, Try.ntmps19
  go_wp2_with (first
      | (go_at_call 54; refine (hold_r _ _).mono ?_; rintro e w' ⟨rfl, rfl⟩)
      | (go_at_call 60; refine (part_r _ _ _ _).mono ?_; rintro e w' ⟨rfl, rfl⟩))
  all_goals
    go_ret
    refine ⟨ret_int ?_, (Below.refl _ _).alloc (Nat.le_refl _) _⟩
    simp_all [meas]
    try (congr 1; omega)

end Go.Proofs.Ytckokehpdgjacaa
