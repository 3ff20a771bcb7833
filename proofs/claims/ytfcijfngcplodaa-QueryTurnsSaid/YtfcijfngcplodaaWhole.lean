/-
  The digits of three numbers, by the reference.
-/
import Derived.Test.YtfcijfngcplodaaBase
import Derived.Test.YtfcijfngcplodaaProg
import Derived.Laws.IdiomStrings
namespace Go.Proofs.Ytfcijfngcplodaa
open Go Go.RowKit
set_option linter.unusedVariables false
set_option maxRecDepth 20000

theorem conv1 (w : World) (g : Nat) (b : UInt8) (n : Int) (hb : n = b.toNat) (h : w.cell? ⟨g, 0, none⟩ = some (.int .u8 n)) : (convert 93 9 (.slice (some ⟨g, 0, none⟩) 1 1)).run Try.prog w = .ok (.string ⟨#[b]⟩) w :=
  run_convert_bytes_back w 93 9 5 ⟨g, 0, none⟩ 1 [b] Try.underlying93 Try.underlying5 Try.underlying9 fun j hj => by
    have : j = 0 := by simpa using hj
    subst this
    subst hb
    exact h
theorem whole_4 (w : World) : Calls Try.prog 69 #[.int .i64 4] w fun e w' => e = .returned (.string ⟨#[52]⟩) ∧ Below w.heap.size w w' := by
  go_enter Try.func69, Try.ntmps69
  go_wp2
  rw [conv1 _ _ 52 52 rfl (by simp)]
  go_wp2
  go_ret
  exact ⟨rfl, balloc (Below.refl _ _) _⟩
@[go_sem] theorem conv_c (w : World) (g : Nat) (n : Int) (h : w.cell? ⟨g, 0, none⟩ = some (.int .u8 n)) (hn : n = 48) : (convert 93 9 (.slice (some ⟨g, 0, none⟩) 1 1)).run Try.prog w = .ok (.string ⟨#[48]⟩) w := by
  subst hn
  exact conv1 w g 48 48 rfl h
theorem wrap48 : IntKind.u8.wrap (IntKind.i64.wrap 48) = 48 := by decide
theorem whole_40 (w : World) : Calls Try.prog 69 #[.int .i64 40] w fun e w' => e = .returned (.string ⟨#[52, 48]⟩) ∧ Below w.heap.size w w' := by
  have H4 := Lib.hid whole_4
  have hconv : ∀ (W : World) (g : Nat), W.cell? ⟨g, 0, none⟩ = some (.int .u8 48) → (convert 93 9 (.slice (some ⟨g, 0, none⟩) 1 1)).run Try.prog W = .ok (.string ⟨#[48]⟩) W := fun W g h => conv1 W g 48 48 rfl h
  go_enter Try.func69, Try.ntmps69
  go_wp2_with fail
  go_region_with (first
    | (go_at_call 69; refine (H4.out _).mono ?_; rintro e w1 ⟨rfl, h1⟩; have hc1 := fun hlt => h1.cell (p := ⟨w.heap.size, 0, none⟩) hlt)
    | (rw [hconv _ _ (by first | assumption | (simp; done) | (simp; decide) | (rw [hc1 (by simp)]; simp; done) | (rw [hc1 (by simp)]; simp; decide))]))
  all_goals go_wp2
  all_goals go_ret
  all_goals refine ⟨rfl, ?_⟩
  all_goals first
    | exact balloc ((Below.refl w.heap.size w).drew.trans h1) _
    | exact (((balloc (Below.refl w.heap.size w) _).drew).trans (h1.mono (by simp)))
    | exact ((((Below.refl w.heap.size w).drew).trans (balloc (Below.refl w.heap.size _) _)).trans (h1.mono (by simp)))
    | go_show
theorem app400 : (⟨#[52, 48]⟩ : ByteArray) ++ ⟨#[48]⟩ = ⟨#[52, 48, 48]⟩ := by rfl
theorem whole_400 (w : World) : Calls Try.prog 69 #[.int .i64 400] w fun e w' => e = .returned (.string ⟨#[52, 48, 48]⟩) ∧ Below w.heap.size w w' := by
  have H40 := Lib.hid whole_40
  have hconv : ∀ (W : World) (g : Nat), W.cell? ⟨g, 0, none⟩ = some (.int .u8 48) → (convert 93 9 (.slice (some ⟨g, 0, none⟩) 1 1)).run Try.prog W = .ok (.string ⟨#[48]⟩) W := fun W g h => conv1 W g 48 48 rfl h
  go_enter Try.func69, Try.ntmps69
  go_wp2_with fail
  go_region_with (first
    | (go_at_call 69; try rw [show IntKind.i64.wrap 40 = 40 by decide]; refine (H40.out _).mono ?_; rintro e w1 ⟨rfl, h1⟩; have hc1 := fun hlt => h1.cell (p := ⟨w.heap.size, 0, none⟩) hlt)
    | (rw [hconv _ _ (by first | assumption | (simp; done) | (simp; decide) | (rw [hc1 (by simp)]; simp; done) | (rw [hc1 (by simp)]; simp; decide))]))
  all_goals go_wp2
  all_goals go_ret
  all_goals refine ⟨rfl, ?_⟩
  all_goals first
    | exact balloc ((Below.refl w.heap.size w).drew.trans h1) _
    | exact (((balloc (Below.refl w.heap.size w) _).drew).trans (h1.mono (by simp)))
    | exact ((((Below.refl w.heap.size w).drew).trans (balloc (Below.refl w.heap.size _) _)).trans (h1.mono (by simp)))
    | go_show
end Go.Proofs.Ytfcijfngcplodaa
