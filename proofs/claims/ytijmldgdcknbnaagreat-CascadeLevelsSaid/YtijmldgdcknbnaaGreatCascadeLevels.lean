/-
  CascadeLevels: the level of any declaration is as the document says. For every input; no condition.
-/
import Derived.Test.YtijmldgdcknbnaaGreatLift
import Derived.Test.YtijmldgdcknbnaaGreatLevels
namespace Go.Proofs.YtijmldgdcknbnaaGreat
open Go.RowKit Go.ChangeShapes Go.WideShapes Go.ChangeAt Go.Joins
open Go.ChangeMaps (open_string)
set_option linter.unusedVariables false

set_option maxRecDepth 100000 in
theorem cascadeLevels_lifted (os : Os) (started : os.Started) (H : Type) (enc : TypeId × Value → H) :
    ReturnsInHanded {} Tryz.checked os 3 .any (Rows.cascadeLevelsSpec.pre6 enc Tryz.prog Tryz.f3 Rows.cascadeLevelsRow.domain false) (Rows.cascadeLevelsSpec.post enc Tryz.prog Tryz.f3 false true false false) := by
  refine law_lifted (C := Tryz.checked) own started (by kernel_rfl) Tryz.func3 laidOut
    (ChangeSpec.witness6 (enc := enc) (C := Tryz.checked) false ⟨#[], #[.int .i64 0, .bool false], []⟩ 8 (by kernel_rfl) (by kernel_rfl) (by kernel_rfl) (by kernel_rfl))
    rfl Tryz.underlying4 rfl (fun ds h => by match ds, h with | [_, _], _ => exact ⟨rfl, rfl, rfl⟩) (by kernel_rfl) ?_
  intro W base args ds p hval0 hA0 hlt hsz0
  have hval : ∀ (j : Nat) t v, Tryz.f3.params[j]? = some t → args[j]? = some v → Value.okWide Tryz.prog W .any base t v := hval0
  have hA : DataW.TrodAll enc Tryz.prog W 0 (fun _ => true) true Tryz.f3.params.toList args.toList ds p := hA0
  have hsz : (DataW.weightsEach Tryz.prog Tryz.f3.params.toList ds).all (· ≤ reachBytes) = true := hsz0
  rw [Tryz.params3] at hA hval hsz
  clear hval0 hA0 hsz0
  obtain ⟨v0, v1, d0, d1, p0, p1, rfl, rfl, rfl, h0, h1⟩ := trodAll_two hA
  obtain ⟨o, rfl, rfl, _, wo⟩ := open_int Tryz.underlying3 (hval 0 3 v0 rfl rfl) h0
  obtain ⟨i, rfl, rfl, _⟩ := open_bool Tryz.underlying4 (hval 1 4 v1 rfl rfl) h1
  exact levels_walk o i W

/-- THE STATEMENT -/
theorem cascadeLevels_holds : Rows.CascadeLevelsSaid :=
  OpenClaim.holds_of_wide 3 Tryz.f3 rfl rfl rfl rfl rfl rfl rfl ⟨rfl, rfl, rfl, rfl, rfl⟩ rfl rfl rfl rfl rfl (by kernel_rfl) Tryz.func3 (by kernel_rfl)
    (of_decide_eq_true (by kernel_rfl)) (by unfold Func.isWrapper; first | (rw [if_pos (by decide +kernel)]; kernel_rfl) | (rw [if_neg (by decide +kernel)]; exact ⟨rfl, rfl⟩))
    (fun os started H enc _ => cascadeLevels_lifted os started H enc)
#print axioms cascadeLevels_holds
end Go.Proofs.YtijmldgdcknbnaaGreat
