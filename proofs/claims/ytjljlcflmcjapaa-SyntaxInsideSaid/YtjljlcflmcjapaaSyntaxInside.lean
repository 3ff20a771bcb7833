/-
  SyntaxInside: what closes an opening that stands within another one lies within what closes that one. For every input; no condition.
-/
import Derived.Test.YtjljlcflmcjapaaLift
import Derived.Test.YtjljlcflmcjapaaSyntaxW
namespace Go.Proofs.Ytjljlcflmcjapaa
open Go.RowKit Go.ChangeShapes Go.WideShapes Go.ChangeAt Go.Joins
open Go.ChangeMaps (open_string)
set_option linter.unusedVariables false

set_option maxRecDepth 100000 in
theorem syntaxInside_lifted (os : Os) (started : os.Started) (H : Type) (enc : TypeId × Value → H) :
    ReturnsInHanded {} Try.checked os 10 .any (Rows.syntaxInsideSpec.pre6 enc Try.prog Try.f10 Rows.syntaxInsideRow.domain false) (Rows.syntaxInsideSpec.post enc Try.prog Try.f10 false true false false) := by
  refine law_lifted (C := Try.checked) own started (by kernel_rfl) Try.func10 laidOut
    (ChangeSpec.witness6 (enc := enc) (C := Try.checked) false ⟨#[], #[.slice none 0 0, .int .i64 0, .int .i64 0], []⟩ 8 (by kernel_rfl) (by kernel_rfl) (by kernel_rfl) (by kernel_rfl))
    rfl Try.underlying4 rfl (fun ds h => by match ds, h with | [_, _, _], _ => exact ⟨rfl, rfl, rfl⟩) (by kernel_rfl) ?_
  intro W base args ds p hval0 hA0 hlt hsz0
  have hval : ∀ (j : Nat) t v, Try.f10.params[j]? = some t → args[j]? = some v → Value.okWide Try.prog W .any base t v := hval0
  have hA : DataW.TrodAll enc Try.prog W 0 (fun _ => true) true Try.f10.params.toList args.toList ds p := hA0
  have hsz : (DataW.weightsEach Try.prog Try.f10.params.toList ds).all (· ≤ reachBytes) = true := hsz0
  rw [Try.params10] at hA hval hsz
  clear hval0 hA0 hsz0
  obtain ⟨v0, v1, v2, d0, d1, d2, p0, p1, p2, rfl, rfl, rfl, h0, h1, h2⟩ := trodAll_three hA
  obtain ⟨al, capl, l, rfl, hl, gl, zl⟩ := open_toks (hval 0 41 v0 rfl rfl) h0 (fun x hx => hlt x (by simp [hx])) (fun es sp e => by subst e; have := sized_slice hsz (j := 0) rfl rfl Try.underlying41; rwa [bTok_] at this)
  obtain ⟨i, rfl, rfl, _, wi⟩ := open_int Try.underlying3 (hval 1 3 v1 rfl rfl) h1
  obtain ⟨j, rfl, rfl, _, wj⟩ := open_int Try.underlying3 (hval 2 3 v2 rfl rfl) h2
  exact inside_walk hl (by simp [reachBytes] at gl; omega) i j

/-- THE STATEMENT -/
theorem syntaxInside_holds : Rows.SyntaxInsideSaid :=
  OpenClaim.holds_of_wide 10 Try.f10 rfl rfl rfl rfl rfl rfl rfl ⟨rfl, rfl, rfl, rfl, rfl⟩ rfl rfl rfl rfl rfl (by kernel_rfl) Try.func10 (by kernel_rfl)
    (of_decide_eq_true (by kernel_rfl)) (by unfold Func.isWrapper; first | (rw [if_pos (by decide +kernel)]; kernel_rfl) | (rw [if_neg (by decide +kernel)]; exact ⟨rfl, rfl⟩))
    (fun os started H enc _ => syntaxInside_lifted os started H enc)
#print axioms syntaxInside_holds
end Go.Proofs.Ytjljlcflmcjapaa
