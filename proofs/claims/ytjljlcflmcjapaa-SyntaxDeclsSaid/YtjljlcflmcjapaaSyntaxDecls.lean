/-
  SyntaxDecls: any tokens have the declarations that the document says. For every input; no condition.
-/
import Derived.Test.YtjljlcflmcjapaaLift
import Derived.Test.YtjljlcflmcjapaaDeclLaw
namespace Go.Proofs.Ytjljlcflmcjapaa
open Go.RowKit Go.ChangeShapes Go.WideShapes Go.ChangeAt Go.Joins
open Go.ChangeMaps (open_string)
set_option linter.unusedVariables false

set_option maxRecDepth 100000 in
theorem syntaxDecls_lifted (os : Os) (started : os.Started) (H : Type) (enc : TypeId × Value → H) :
    ReturnsInHanded {} Try.checked os 11 .any (Rows.syntaxDeclsSpec.pre6 enc Try.prog Try.f11 Rows.syntaxDeclsRow.domain false) (Rows.syntaxDeclsSpec.post enc Try.prog Try.f11 false true false false) := by
  refine law_lifted (C := Try.checked) own started (by kernel_rfl) Try.func11 laidOut
    (ChangeSpec.witness6 (enc := enc) (C := Try.checked) false ⟨#[], #[.slice none 0 0], []⟩ 8 (by kernel_rfl) (by kernel_rfl) (by kernel_rfl) (by kernel_rfl))
    rfl Try.underlying4 rfl (fun ds h => by match ds, h with | [_], _ => exact ⟨rfl, rfl, rfl⟩) (by kernel_rfl) ?_
  intro W base args ds p hval0 hA0 hlt hsz0
  have hval : ∀ (j : Nat) t v, Try.f11.params[j]? = some t → args[j]? = some v → Value.okWide Try.prog W .any base t v := hval0
  have hA : DataW.TrodAll enc Try.prog W 0 (fun _ => true) true Try.f11.params.toList args.toList ds p := hA0
  have hsz : (DataW.weightsEach Try.prog Try.f11.params.toList ds).all (· ≤ reachBytes) = true := hsz0
  rw [Try.params11] at hA hval hsz
  clear hval0 hA0 hsz0
  obtain ⟨v0, d0, hargs, rfl, h0⟩ := trodAll_one hA
  obtain rfl : args = #[v0] := by cases args; simp_all
  obtain ⟨al, capl, l, rfl, hl, gl, zl⟩ := open_toks (hval 0 41 v0 rfl rfl) h0 (fun x hx => hlt x (by simp [hx])) (fun es sp e => by subst e; have := sized_slice hsz (j := 0) rfl rfl Try.underlying41; rwa [bTok_] at this)
  exact decls_walk hl (by simp [reachBytes] at gl; omega)

/-- THE STATEMENT -/
theorem syntaxDecls_holds : Rows.SyntaxDeclsSaid :=
  OpenClaim.holds_of_wide 11 Try.f11 rfl rfl rfl rfl rfl rfl rfl ⟨rfl, rfl, rfl, rfl, rfl⟩ rfl rfl rfl rfl rfl (by kernel_rfl) Try.func11 (by kernel_rfl)
    (of_decide_eq_true (by kernel_rfl)) (by unfold Func.isWrapper; first | (rw [if_pos (by decide +kernel)]; kernel_rfl) | (rw [if_neg (by decide +kernel)]; exact ⟨rfl, rfl⟩))
    (fun os started H enc _ => syntaxDecls_lifted os started H enc)
#print axioms syntaxDecls_holds
end Go.Proofs.Ytjljlcflmcjapaa
