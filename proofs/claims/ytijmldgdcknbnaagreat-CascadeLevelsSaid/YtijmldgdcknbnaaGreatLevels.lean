/-
  Layer 16's law CascadeLevels, walked.
-/
import Derived.Test.YtijmldgdcknbnaaGreatBase
import Derived.Test.YtijmldgdcknbnaaGreatKnown16
namespace Go.Proofs.YtijmldgdcknbnaaGreat
open Go.RowKit
set_option linter.unusedVariables false

def lev (o : Int) (i : Bool) : Int := if i then (if o = 0 then 3 else 2) else (if o = 0 then 0 else 1)
theorem level_p (o : Int) (i : Bool) (w : World) : Calls Tryz.prog 4 #[.int .i64 o, .bool i] w fun e w' => e = .returned (.int .i64 (lev o i)) ∧ w = w' := by
  by_cases h : o = 0
  · subst h
    cases i
    all_goals
      go_enter Tryz.func4, Tryz.ntmps4
      go_wp2
      go_ret
      exact ⟨rfl, rfl⟩
  · have b0 : (o == 0) = false := by simpa using h
    have HL := Lib.hid (show lev o true = 2 ∧ lev o false = 1 by unfold lev; simp [h])
    clear h
    cases i
    all_goals
      go_enter Tryz.func4, Tryz.ntmps4
      go_wp2
      go_ret
      exact ⟨ret_int (by first | exact HL.out.1.symm | exact HL.out.2.symm), rfl⟩
theorem level_r (o : Int) (i : Bool) (w : World) : Calls Tryz.prog 5 #[.int .i64 o, .bool i] w fun e w' => e = .returned (.int .i64 (lev o i)) ∧ w = w' := by
  by_cases h : o = 0
  · subst h
    cases i
    all_goals
      go_enter Tryz.func5, Tryz.ntmps5
      go_wp2
      go_ret
      exact ⟨rfl, rfl⟩
  · have b0 : (o == 0) = false := by simpa using h
    have HL := Lib.hid (show lev o true = 2 ∧ lev o false = 1 by unfold lev; simp [h])
    clear h
    cases i
    all_goals
      go_enter Tryz.func5, Tryz.ntmps5
      go_wp2
      go_ret
      exact ⟨ret_int (by first | exact HL.out.1.symm | exact HL.out.2.symm), rfl⟩

theorem levels_walk (o : Int) (i : Bool) (w : World) : Calls Tryz.prog 3 #[.int .i64 o, .bool i] w fun e w' => e = .returned (.bool true) ∧ Below w.heap.size w w' := by
  go_enter Tryz.func3, Tryz.ntmps3
  go_wp2_with (first
    | (go_at_call 4; refine (level_p _ _ _).mono ?_; rintro e w' ⟨rfl, rfl⟩)
    | (go_at_call 5; refine (level_r _ _ _).mono ?_; rintro e w' ⟨rfl, rfl⟩)
    | (go_at_call 6; refine (known16 _).mono ?_; rintro e w3 ⟨rfl, h3⟩))
  go_ret
  exact ⟨rfl, h3⟩

end Go.Proofs.YtijmldgdcknbnaaGreat
