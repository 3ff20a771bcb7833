/-
  Layer 8's law QueryTurns, of no feature and no comparison that it speaks of.
-/
import Derived.Test.YtfcijfngcplodaaTurnsO
namespace Go.Proofs.Ytfcijfngcplodaa
open Go Go.RowKit Sy Pl
set_option linter.unusedVariables false
set_option linter.unusedSimpArgs false
/-sy words
fun (d : D) => reckV [] [] 400 30 4 [] M0 d
-/
theorem words_w (w : World) : Calls Try.prog 4 #[] w fun e w' => ∃ u, e = .returned u ∧ Below w.heap.size w w' := by
  have h : CallTo Try.prog 4 [] M0 fun v _ => True := toV [] [] 400 30 .done (.leaf (@AV.sl 0 0 7 (some 7) 1)) (by kernel_rfl) trivial
  refine (h w (rho0 w) [] w rfl (WR.start w)).mono ?_
  rintro e w' ⟨ρ', u, v, M', rfl, hE, hv, hW', _⟩
  refine ⟨u, rfl, ?_⟩
  have := hW'.keep
  rw [hE.mine] at this
  exact Keep.below this
set_option maxRecDepth 4000 in
theorem turns_out {w : World} {f o n : Int} (h : f < 1 ∨ 4 < f ∨ o < 1 ∨ 5 < o) : Calls Try.prog 3 #[.int .i64 f, .int .i64 o, .int .i64 n] w fun e w' => e = .returned (.bool true) ∧ Below w.heap.size w w' := by
  have hw0 : Below w.heap.size w w := Below.refl _ _
  by_cases c1 : f < 1
  · have d1 : decide (f < 1) = true := by simpa using c1
    clear h
    go_enter Try.func3, Try.ntmps3
    go_wp2_with (first
      | (go_at_call 4; refine (words_w _).mono ?_; rintro e w1 ⟨u1, rfl, h1⟩; have hw1 := bseq hw0 h1)
      | (go_at_call 5; refine (known08 _).mono ?_; rintro e w14 ⟨rfl, h14⟩; have hw14 := bseq hw1 h14))
    go_ret
    exact ⟨rfl, hw14⟩
  · have d1 : decide (f < 1) = false := by simpa using c1
    by_cases c2 : 4 < f
    · have d2 : decide (4 < f) = true := by simpa using c2
      clear h c1
      go_enter Try.func3, Try.ntmps3
      go_wp2_with (first
        | (go_at_call 4; refine (words_w _).mono ?_; rintro e w1 ⟨u1, rfl, h1⟩; have hw1 := bseq hw0 h1)
        | (go_at_call 5; refine (known08 _).mono ?_; rintro e w14 ⟨rfl, h14⟩; have hw14 := bseq hw1 h14))
      go_ret
      exact ⟨rfl, hw14⟩
    · have d2 : decide (4 < f) = false := by simpa using c2
      by_cases c3 : o < 1
      · have d3 : decide (o < 1) = true := by simpa using c3
        clear h c1 c2
        go_enter Try.func3, Try.ntmps3
        go_wp2_with (first
          | (go_at_call 4; refine (words_w _).mono ?_; rintro e w1 ⟨u1, rfl, h1⟩; have hw1 := bseq hw0 h1)
          | (go_at_call 5; refine (known08 _).mono ?_; rintro e w14 ⟨rfl, h14⟩; have hw14 := bseq hw1 h14))
        go_ret
        exact ⟨rfl, hw14⟩
      · have d3 : decide (o < 1) = false := by simpa using c3
        have d4 : decide (5 < o) = true := by simp; omega
        clear h c1 c2 c3
        go_enter Try.func3, Try.ntmps3
        go_wp2_with (first
          | (go_at_call 4; refine (words_w _).mono ?_; rintro e w1 ⟨u1, rfl, h1⟩; have hw1 := bseq hw0 h1)
          | (go_at_call 5; refine (known08 _).mono ?_; rintro e w14 ⟨rfl, h14⟩; have hw14 := bseq hw1 h14))
        go_ret
        exact ⟨rfl, hw14⟩
end Go.Proofs.Ytfcijfngcplodaa
