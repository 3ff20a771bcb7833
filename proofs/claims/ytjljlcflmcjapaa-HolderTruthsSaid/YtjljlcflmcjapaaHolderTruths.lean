/-
  HolderTruths: any query says of any element what it says of its nearest holder's extent; all of some do just if each does. For every input; no condition.
-/
import Derived.Test.YtjljlcflmcjapaaLift
import Derived.Test.YtjljlcflmcjapaaHoldD
namespace Go.Proofs.Ytjljlcflmcjapaa
open Go.RowKit Go.ChangeShapes Go.WideShapes Go.ChangeAt Go.Joins
open Go.ChangeMaps (open_string)
set_option linter.unusedVariables false

set_option maxRecDepth 100000 in
theorem holderTruths_lifted (os : Os) (started : os.Started) (H : Type) (enc : TypeId × Value → H) :
    ReturnsInHanded {} Try.checked os 14 .any (Rows.holderTruthsSpec.pre6 enc Try.prog Try.f14 Rows.holderTruthsRow.domain false) (Rows.holderTruthsSpec.post enc Try.prog Try.f14 false true false false) := by
  refine law_lifted (C := Try.checked) own started (by kernel_rfl) Try.func14 laidOut
    (ChangeSpec.witness6 (enc := enc) (C := Try.checked) false ⟨#[], #[.slice none 0 0, .slice none 0 0, .int .i64 0, .slice none 0 0], []⟩ 8 (by kernel_rfl) (by kernel_rfl) (by kernel_rfl) (by kernel_rfl))
    rfl Try.underlying4 rfl (fun ds h => by match ds, h with | [_, _, _, _], _ => exact ⟨rfl, rfl, rfl⟩) (by kernel_rfl) ?_
  intro W base args ds p hval0 hA0 hlt hsz0
  have hval : ∀ (j : Nat) t v, Try.f14.params[j]? = some t → args[j]? = some v → Value.okWide Try.prog W .any base t v := hval0
  have hA : DataW.TrodAll enc Try.prog W 0 (fun _ => true) true Try.f14.params.toList args.toList ds p := hA0
  have hsz : (DataW.weightsEach Try.prog Try.f14.params.toList ds).all (· ≤ reachBytes) = true := hsz0
  rw [Try.params14] at hA hval hsz
  clear hval0 hA0 hsz0
  obtain ⟨v0, v1, v2, v3, d0, d1, d2, d3, p0, p1, p2, p3, rfl, rfl, rfl, h0, h1, h2, h3⟩ := trodAll_four hA
  obtain ⟨al, capl, l, rfl, hl, gl⟩ := open_nodes (hval 0 56 v0 rfl rfl) h0 (fun x hx => hlt x (by simp [hx])) (fun es sp e => by subst e; have := sized_slice hsz (j := 0) rfl rfl Try.underlying56; rwa [bNode_] at this)
  obtain ⟨ax, capx, x, rfl, hx, zx, gx⟩ := open_exts (hval 1 57 v1 rfl rfl) h1 (fun x hx => hlt x (by simp [hx])) (fun es sp e => by subst e; have := sized_slice hsz (j := 1) rfl rfl Try.underlying57; rwa [bExt_] at this)
  obtain ⟨i, rfl, rfl, _, wi⟩ := open_int Try.underlying3 (hval 2 3 v2 rfl rfl) h2
  obtain ⟨aq, capq, q, rfl, hq, kq⟩ := open_queries (hval 3 58 v3 rfl rfl) h3 (fun x hx => hlt x (by simp [hx])) (fun n hn => by have := List.all_eq_true.1 hsz n (DataW.weights_mem_each (j := 3) rfl rfl n hn); simpa using this)
  exact holdt_walk hl (fun y hy => node_one (gl y hy)) hx i hq kq

/-- THE STATEMENT -/
theorem holderTruths_holds : Rows.HolderTruthsSaid :=
  OpenClaim.holds_of_wide 14 Try.f14 rfl rfl rfl rfl rfl rfl rfl ⟨rfl, rfl, rfl, rfl, rfl⟩ rfl rfl rfl rfl rfl (by kernel_rfl) Try.func14 (by kernel_rfl)
    (of_decide_eq_true (by kernel_rfl)) (by unfold Func.isWrapper; first | (rw [if_pos (by decide +kernel)]; kernel_rfl) | (rw [if_neg (by decide +kernel)]; exact ⟨rfl, rfl⟩))
    (fun os started H enc _ => holderTruths_lifted os started H enc)
#print axioms holderTruths_holds
end Go.Proofs.Ytjljlcflmcjapaa
