/-
  The small interpreter, used on this program: a call without arguments that it says is true is true in any world.
-/
import Derived.Test.YtmlhipckgmbpfaaGreatEv8
import Derived.Test.YtmlhipckgmbpfaaGreatProg
namespace Go.Proofs.YtmlhipckgmbpfaaGreat
open Go Go.RowKit
set_option linter.unusedVariables false

theorem Ev.plainly_of {P : Program} (h : (P.funcs.toList.all fun fn => !(fn.name == "runtime.NumGoroutine")) = true) : Ev.Plainly P := fun f fn hf => by
  have := List.all_eq_true.1 h fn (by
    have := Array.mem_of_getElem? hf
    simpa using this)
  simpa using this
theorem plainly : Ev.Plainly Tryz.prog := Ev.plainly_of (by kernel_rfl)
theorem mixed : Tryz.prog.follows .mixedOrders = true := by kernel_rfl

def Ev.isTrue : Option (Ev.AV × Ev.Mem) → Bool
  | some (.lit (.bool true), _) => true
  | _ => false
theorem Ev.true_of {f k n : Nat} (h : Ev.isTrue (Ev.evCall Tryz.prog k n f [] ⟨0, []⟩) = true) (w : World) : Calls Tryz.prog f #[] w fun e w' => e = .returned (.bool true) ∧ Below w.heap.size w w' := by
  unfold Ev.isTrue at h
  split at h
  · rename_i M' he
    have := Ev.evCall_ok plainly mixed k n f [] ⟨0, []⟩ _ _ he ⟨w, fun _ => false⟩ (fun _ => none) [] w (by simp [Ev.rels]) (Ev.WR.start w)
    refine this.mono ?_
    rintro e w' ⟨ρ', u, rfl, _, h2, h3⟩
    simp only [Ev.rel] at h2
    exact ⟨by rw [h2], h3.keep.below⟩
  · cases h

end Go.Proofs.YtmlhipckgmbpfaaGreat
