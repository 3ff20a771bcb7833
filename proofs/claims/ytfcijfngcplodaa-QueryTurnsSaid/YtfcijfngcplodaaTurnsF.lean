/-
  Layer 8's law QueryTurns.
-/
import Derived.Test.YtfcijfngcplodaaTurnsX
import Derived.Test.YtfcijfngcplodaaTurnsL1
import Derived.Test.YtfcijfngcplodaaTurnsL2
import Derived.Test.YtfcijfngcplodaaTurnsL3
import Derived.Test.YtfcijfngcplodaaTurnsL4
namespace Go.Proofs.Ytfcijfngcplodaa
open Go Go.RowKit Sy Pl
set_option linter.unusedVariables false
set_option linter.unusedSimpArgs false
theorem turns_of {f o n : Int} {W : World} (h : CallTo Try.prog 3 [int f, int o, int n] M0 fun v _ => v = boo true) : Calls Try.prog 3 #[.int .i64 f, .int .i64 o, .int .i64 n] W fun e w' => e = .returned (.bool true) ∧ Below W.heap.size W w' := by
  refine (h.back (w := W) (us := [.int .i64 f, .int .i64 o, .int .i64 n]) (by simp only [rels, rel]; exact ⟨_, _, rfl, rfl, _, _, rfl, rfl, _, _, rfl, rfl, rfl⟩)).mono ?_
  rintro e w' ⟨u, ρ', rfl, hv, _, hb⟩
  simp only [rel] at hv
  subst hv
  exact ⟨rfl, hb⟩
theorem turns_walk {W : World} (f o n : Int) : Calls Try.prog 3 #[.int .i64 f, .int .i64 o, .int .i64 n] W fun e w' => e = .returned (.bool true) ∧ Below W.heap.size W w' := by
  by_cases h : f < 1 ∨ 4 < f ∨ o < 1 ∨ 5 < o
  · exact turns_out h
  · have hf : f = 1 ∨ f = 2 ∨ f = 3 ∨ f = 4 := by omega
    have ho : o = 1 ∨ o = 2 ∨ o = 3 ∨ o = 4 ∨ o = 5 := by omega
    clear h
    refine turns_of ?_
    rcases hf with rfl | rfl | rfl | rfl
    · rcases ho with rfl | rfl | rfl | rfl | rfl
      · exact law_11 n
      · exact law_12 n
      · exact law_13 n
      · exact law_14 n
      · exact law_15 n
    · rcases ho with rfl | rfl | rfl | rfl | rfl
      · exact law_21 n
      · exact law_22 n
      · exact law_23 n
      · exact law_24 n
      · exact law_25 n
    · rcases ho with rfl | rfl | rfl | rfl | rfl
      · exact law_31 n
      · exact law_32 n
      · exact law_33 n
      · exact law_34 n
      · exact law_35 n
    · rcases ho with rfl | rfl | rfl | rfl | rfl
      · exact law_41 n
      · exact law_42 n
      · exact law_43 n
      · exact law_44 n
      · exact law_45 n
end Go.Proofs.Ytfcijfngcplodaa
