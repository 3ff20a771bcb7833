/-
  Layer 14's laws TruthTables and TruthMorgan, walked.
-/
import Derived.Test.YtjljlcflmcjapaaTruthA
import Derived.Test.YtjljlcflmcjapaaKnown14
namespace Go.Proofs.Ytjljlcflmcjapaa
open Go.RowKit
set_option linter.unusedVariables false

theorem tables_walk (a b : Int) (w : World) : Calls Try.prog 3 #[.int .i64 a, .int .i64 b] w fun e w' => e = .returned (.bool true) ∧ Below w.heap.size w w' := by
  go_enter Try.func3, Try.ntmps3
  go_wp2_with (first
    | (go_at_call 15; refine (not_p _ _).mono ?_; rintro e w' ⟨rfl, rfl⟩)
    | (go_at_call 16; refine (not_r _ _).mono ?_; rintro e w' ⟨rfl, rfl⟩)
    | (go_at_call 17; refine (and_p _ _ _).mono ?_; rintro e w' ⟨rfl, rfl⟩)
    | (go_at_call 18; refine (and_r _ _ _).mono ?_; rintro e w' ⟨rfl, rfl⟩)
    | (go_at_call 19; refine (or_p _ _ _).mono ?_; rintro e w' ⟨rfl, rfl⟩)
    | (go_at_call 20; refine (or_r _ _ _).mono ?_; rintro e w' ⟨rfl, rfl⟩)
    | (go_at_call 21; refine (known14 _).mono ?_; rintro e w3 ⟨rfl, h3⟩))
  go_ret
  exact ⟨rfl, h3⟩

theorem morgan1 (a b : Int) : tN (tA a b) = tO (tN a) (tN b) := by unfold tN tA tO; (repeat split) <;> omega
theorem morgan2 (a b : Int) : tN (tO a b) = tA (tN a) (tN b) := by unfold tN tA tO; (repeat split) <;> omega
theorem morgan3 (a b c : Int) : tA a (tA b c) = tA (tA a b) c := by unfold tA; (repeat split) <;> omega
theorem morgan4 (a b : Int) : tA a b = tA b a := by unfold tA; (repeat split) <;> omega
theorem morgan5 (a b c : Int) : tA a (tO b c) = tO (tA a b) (tA a c) := by unfold tA tO; (repeat split) <;> omega

theorem morgan_walk (a b c : Int) (w : World) : Calls Try.prog 4 #[.int .i64 a, .int .i64 b, .int .i64 c] w fun e w' => e = .returned (.bool true) ∧ Below w.heap.size w w' := by
  have m1 : (tN (tA a b) == tO (tN a) (tN b)) = true := by rw [morgan1]; simp
  have m2 : (tN (tO a b) == tA (tN a) (tN b)) = true := by rw [morgan2]; simp
  have m3 : (tA a (tA b c) == tA (tA a b) c) = true := by rw [morgan3]; simp
  have m4 : (tA a b == tA b a) = true := by rw [morgan4]; simp
  have m5 : (tA a (tO b c) == tO (tA a b) (tA a c)) = true := by rw [morgan5]; simp
  go_enter Try.func4, Try.ntmps4
  go_wp2_with (first
    | (go_at_call 15; refine (not_p _ _).mono ?_; rintro e w' ⟨rfl, rfl⟩)
    | (go_at_call 17; refine (and_p _ _ _).mono ?_; rintro e w' ⟨rfl, rfl⟩)
    | (go_at_call 19; refine (or_p _ _ _).mono ?_; rintro e w' ⟨rfl, rfl⟩)
    | (go_at_call 21; refine (known14 _).mono ?_; rintro e w3 ⟨rfl, h3⟩))
  go_ret
  exact ⟨rfl, h3⟩

end Go.Proofs.Ytjljlcflmcjapaa
