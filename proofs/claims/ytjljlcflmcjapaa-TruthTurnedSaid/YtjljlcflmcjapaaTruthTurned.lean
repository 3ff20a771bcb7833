/-
  TruthTurned: a query with a Not around it says the other truth. For every input; no condition.
-/
import Derived.Test.YtjljlcflmcjapaaLift
import Derived.Test.YtjljlcflmcjapaaTruthY
namespace Go.Proofs.Ytjljlcflmcjapaa
open Go.RowKit Go.ChangeShapes Go.WideShapes Go.ChangeAt Go.Joins
open Go.ChangeMaps (open_string)
set_option linter.unusedVariables false

set_option maxRecDepth 100000 in
theorem truthTurned_lifted (os : Os) (started : os.Started) (H : Type) (enc : TypeId × Value → H) :
    ReturnsInHanded {} Try.checked os 8 .any (Rows.truthTurnedSpec.pre6 enc Try.prog Try.f8 Rows.truthTurnedRow.domain false) (Rows.truthTurnedSpec.post enc Try.prog Try.f8 false true false false) := by
  refine law_lifted (C := Try.checked) own started (by kernel_rfl) Try.func8 laidOut
    (ChangeSpec.witness6 (enc := enc) (C := Try.checked) false ⟨#[], #[.agg #[.string ⟨#[]⟩, .slice none 0 0], .agg #[.int .i64 0, .string ⟨#[]⟩, .int .i64 0, .int .i64 0]], []⟩ 8 (by kernel_rfl) (by kernel_rfl) (by kernel_rfl) (by kernel_rfl))
    rfl Try.underlying4 rfl (fun ds h => by match ds, h with | [_, _], _ => exact ⟨rfl, rfl, rfl⟩) (by kernel_rfl) ?_
  intro W base args ds p hval0 hA0 hlt hsz0
  have hval : ∀ (j : Nat) t v, Try.f8.params[j]? = some t → args[j]? = some v → Value.okWide Try.prog W .any base t v := hval0
  have hA : DataW.TrodAll enc Try.prog W 0 (fun _ => true) true Try.f8.params.toList args.toList ds p := hA0
  have hsz : (DataW.weightsEach Try.prog Try.f8.params.toList ds).all (· ≤ reachBytes) = true := hsz0
  rw [Try.params8] at hA hval hsz
  clear hval0 hA0 hsz0
  obtain ⟨v0, v1, d0, d1, p0, p1, rfl, rfl, rfl, h0, h1⟩ := trodAll_two hA
  obtain ⟨sq, aq, capq, q, rfl, kq, hq⟩ := open_query (hval 0 29 v0 rfl rfl) h0 (fun x hx => hlt x (by simp [hx])) (fun n hn => by have := List.all_eq_true.1 hsz n (DataW.weights_mem_each (j := 0) rfl rfl n hn); simpa using this)
  obtain ⟨ce0, ce1, ce2, ce3, ye0, ye1, ye2, ye3, me, rfl, rfl, _, hye0, hye1, hye2, hye3⟩ := open_agg4 Try.underlying31 (by kernel_rfl) (by kernel_rfl) (hval 1 31 v1 rfl rfl) h1
  obtain ⟨et, ee0, _, _⟩ := DataW.trod_int Try.underlying3 hye0
  obtain ⟨en, ee1, _, _⟩ := DataW.trod_string Try.underlying9 hye1
  obtain ⟨ew, ee2, _, _⟩ := DataW.trod_int Try.underlying3 hye2
  obtain ⟨eh, ee3, _, _⟩ := DataW.trod_int Try.underlying3 hye3
  simp at ee0 ee1 ee2 ee3
  subst ee0 ee1 ee2 ee3
  exact turn_walk kq hq et en ew eh

/-- THE STATEMENT -/
theorem truthTurned_holds : Rows.TruthTurnedSaid :=
  OpenClaim.holds_of_wide 8 Try.f8 rfl rfl rfl rfl rfl rfl rfl ⟨rfl, rfl, rfl, rfl, rfl⟩ rfl rfl rfl rfl rfl (by kernel_rfl) Try.func8 (by kernel_rfl)
    (of_decide_eq_true (by kernel_rfl)) (by unfold Func.isWrapper; first | (rw [if_pos (by decide +kernel)]; kernel_rfl) | (rw [if_neg (by decide +kernel)]; exact ⟨rfl, rfl⟩))
    (fun os started H enc _ => truthTurned_lifted os started H enc)
#print axioms truthTurned_holds
end Go.Proofs.Ytjljlcflmcjapaa
