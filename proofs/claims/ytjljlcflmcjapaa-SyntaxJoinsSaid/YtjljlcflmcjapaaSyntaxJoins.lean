/-
  SyntaxJoins: rules behind a closed block are as they would be alone. For every input; no condition.
-/
import Derived.Test.YtjljlcflmcjapaaLift
import Derived.Test.YtjljlcflmcjapaaJoinsW
namespace Go.Proofs.Ytjljlcflmcjapaa
open Go.RowKit Go.ChangeShapes Go.WideShapes Go.ChangeAt Go.Joins
open Go.ChangeMaps (open_string)
set_option linter.unusedVariables false

set_option maxRecDepth 100000 in
theorem syntaxJoins_lifted (os : Os) (started : os.Started) (H : Type) (enc : TypeId × Value → H) :
    ReturnsInHanded {} Try.checked os 13 .any (Rows.syntaxJoinsSpec.pre6 enc Try.prog Try.f13 Rows.syntaxJoinsRow.domain false) (Rows.syntaxJoinsSpec.post enc Try.prog Try.f13 false true false false) := by
  refine law_lifted (C := Try.checked) own started (by kernel_rfl) Try.func13 laidOut
    (ChangeSpec.witness6 (enc := enc) (C := Try.checked) false ⟨#[], #[.slice none 0 0, .slice none 0 0, .slice none 0 0], []⟩ 8 (by kernel_rfl) (by kernel_rfl) (by kernel_rfl) (by kernel_rfl))
    rfl Try.underlying4 rfl (fun ds h => by match ds, h with | [_, _, _], _ => exact ⟨rfl, rfl, rfl⟩) (by kernel_rfl) ?_
  intro W base args ds p hval0 hA0 hlt hsz0
  have hval : ∀ (j : Nat) t v, Try.f13.params[j]? = some t → args[j]? = some v → Value.okWide Try.prog W .any base t v := hval0
  have hA : DataW.TrodAll enc Try.prog W 0 (fun _ => true) true Try.f13.params.toList args.toList ds p := hA0
  have hsz : (DataW.weightsEach Try.prog Try.f13.params.toList ds).all (· ≤ reachBytes) = true := hsz0
  rw [Try.params13] at hA hval hsz
  clear hval0 hA0 hsz0
  obtain ⟨v0, v1, v2, d0, d1, d2, p0, p1, p2, rfl, rfl, rfl, h0, h1, h2⟩ := trodAll_three hA
  obtain ⟨ah, caph, h, rfl, hh, gh, zh⟩ := open_toks (hval 0 41 v0 rfl rfl) h0 (fun x hx => hlt x (by simp [hx])) (fun es sp e => by subst e; have := sized_slice hsz (j := 0) rfl rfl Try.underlying41; rwa [bTok_] at this)
  obtain ⟨ab, capb, b, rfl, hb, gb, zb⟩ := open_toks (hval 1 41 v1 rfl rfl) h1 (fun x hx => hlt x (by simp [hx])) (fun es sp e => by subst e; have := sized_slice hsz (j := 1) rfl rfl Try.underlying41; rwa [bTok_] at this)
  obtain ⟨aq, capq, q, rfl, hq, gq, zq⟩ := open_toks (hval 2 41 v2 rfl rfl) h2 (fun x hx => hlt x (by simp [hx])) (fun es sp e => by subst e; have := sized_slice hsz (j := 2) rfl rfl Try.underlying41; rwa [bTok_] at this)
  exact joins_walk hh hb hq

/-- THE STATEMENT -/
theorem syntaxJoins_holds : Rows.SyntaxJoinsSaid :=
  OpenClaim.holds_of_wide 13 Try.f13 rfl rfl rfl rfl rfl rfl rfl ⟨rfl, rfl, rfl, rfl, rfl⟩ rfl rfl rfl rfl rfl (by kernel_rfl) Try.func13 (by kernel_rfl)
    (of_decide_eq_true (by kernel_rfl)) (by unfold Func.isWrapper; first | (rw [if_pos (by decide +kernel)]; kernel_rfl) | (rw [if_neg (by decide +kernel)]; exact ⟨rfl, rfl⟩))
    (fun os started H enc _ => syntaxJoins_lifted os started H enc)
#print axioms syntaxJoins_holds
end Go.Proofs.Ytjljlcflmcjapaa
