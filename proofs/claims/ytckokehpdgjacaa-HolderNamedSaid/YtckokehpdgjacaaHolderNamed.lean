/-
  HolderNamed: the nearest holder of a name is the nearest one, or stands above it. For every input; no condition.
-/
import Derived.Test.YtckokehpdgjacaaOpen
import Derived.Test.YtckokehpdgjacaaHolderNamedW
namespace Go.Proofs.Ytckokehpdgjacaa
open Go.RowKit Go.ChangeShapes Go.WideShapes Go.ChangeAt Go.Joins
open Go.ChangeMaps (open_string)
set_option linter.unusedVariables false

set_option maxRecDepth 100000 in
theorem holderNamed_lifted (os : Os) (started : os.Started) (H : Type) (enc : TypeId × Value → H) :
    ReturnsInHanded {} Try.checked os 6 .any (Rows.holderNamedSpec.pre6 enc Try.prog Try.f6 Rows.holderNamedRow.domain false) (Rows.holderNamedSpec.post enc Try.prog Try.f6 false true false false) := by
  refine law_lifted (C := Try.checked) own started (by kernel_rfl) Try.func6 laidOut
    (ChangeSpec.witness6 (enc := enc) (C := Try.checked) false ⟨#[], #[.slice none 0 0, .slice none 0 0, .int .i64 0, .string ⟨#[]⟩], []⟩ 8 (by kernel_rfl) (by kernel_rfl) (by kernel_rfl) (by kernel_rfl))
    rfl Try.underlying4 rfl (fun ds h => by match ds, h with | [_, _, _, _], _ => exact ⟨rfl, rfl, rfl⟩) (by kernel_rfl) ?_
  intro W base args ds p hval0 hA0 hlt hsz0
  have hval : ∀ (j : Nat) t v, Try.f6.params[j]? = some t → args[j]? = some v → Value.okWide Try.prog W .any base t v := hval0
  have hA : DataW.TrodAll enc Try.prog W 0 (fun _ => true) true Try.f6.params.toList args.toList ds p := hA0
  have hsz : (DataW.weightsEach Try.prog Try.f6.params.toList ds).all (· ≤ reachBytes) = true := hsz0
  rw [Try.params6] at hA hval hsz
  clear hval0 hA0 hsz0
  obtain ⟨v0, v1, v2, v3, d0, d1, d2, d3, p0, p1, p2, p3, rfl, rfl, rfl, h0, h1, h2, h3⟩ := trodAll_four hA
  obtain ⟨al, capl, l, rfl, hl, gl⟩ := open_nodes (hval 0 22 v0 rfl rfl) h0 (fun x hx => hlt x (by simp [hx])) (fun es sp e => by subst e; have := sized_slice hsz (j := 0) rfl rfl Try.underlying22; rwa [bNode_] at this)
  obtain ⟨ax, capx, x, rfl, hx, zx, gx⟩ := open_exts (hval 1 23 v1 rfl rfl) h1 (fun x hx => hlt x (by simp [hx])) (fun es sp e => by subst e; have := sized_slice hsz (j := 1) rfl rfl Try.underlying23; rwa [bExt_] at this)
  obtain ⟨i, rfl, rfl, _, wi⟩ := open_int Try.underlying3 (hval 2 3 v2 rfl rfl) h2
  obtain ⟨nm, rfl, rfl, _, wnm⟩ := open_string Try.underlying9 (hval 3 9 v3 rfl rfl) h3
  exact named_walk hl hx i nm

/-- THE STATEMENT -/
theorem holderNamed_holds : Rows.HolderNamedSaid :=
  OpenClaim.holds_of_wide 6 Try.f6 rfl rfl rfl rfl rfl rfl rfl ⟨rfl, rfl, rfl, rfl, rfl⟩ rfl rfl rfl rfl rfl (by kernel_rfl) Try.func6 (by kernel_rfl)
    (of_decide_eq_true (by kernel_rfl)) (by unfold Func.isWrapper; first | (rw [if_pos (by decide +kernel)]; kernel_rfl) | (rw [if_neg (by decide +kernel)]; exact ⟨rfl, rfl⟩))
    (fun os started H enc _ => holderNamed_lifted os started H enc)
#print axioms holderNamed_holds
end Go.Proofs.Ytckokehpdgjacaa
