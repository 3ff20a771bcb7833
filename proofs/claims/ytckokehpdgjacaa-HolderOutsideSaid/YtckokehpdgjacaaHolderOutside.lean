/-
  HolderOutside: what an element does not stand beneath changes nothing for it. For every input; no condition.
-/
import Derived.Test.YtckokehpdgjacaaOpen
import Derived.Test.YtckokehpdgjacaaHolderOutsideW
namespace Go.Proofs.Ytckokehpdgjacaa
open Go.RowKit Go.ChangeShapes Go.WideShapes Go.ChangeAt Go.Joins
open Go.ChangeMaps (open_string)
set_option linter.unusedVariables false

set_option maxRecDepth 100000 in
theorem holderOutside_lifted (os : Os) (started : os.Started) (H : Type) (enc : TypeId × Value → H) :
    ReturnsInHanded {} Try.checked os 5 .any (Rows.holderOutsideSpec.pre6 enc Try.prog Try.f5 Rows.holderOutsideRow.domain false) (Rows.holderOutsideSpec.post enc Try.prog Try.f5 false true false false) := by
  refine law_lifted (C := Try.checked) own started (by kernel_rfl) Try.func5 laidOut
    (ChangeSpec.witness6 (enc := enc) (C := Try.checked) false ⟨#[], #[.slice none 0 0, .slice none 0 0, .int .i64 0, .int .i64 0, .agg #[.int .i64 0, .string ⟨#[]⟩, .int .i64 0, .int .i64 0], .agg #[.int .i64 0, .int .i64 0]], []⟩ 8 (by kernel_rfl) (by kernel_rfl) (by kernel_rfl) (by kernel_rfl))
    rfl Try.underlying4 rfl (fun ds h => by match ds, h with | [_, _, _, _, _, _], _ => exact ⟨rfl, rfl, rfl⟩) (by kernel_rfl) ?_
  intro W base args ds p hval0 hA0 hlt hsz0
  have hval : ∀ (j : Nat) t v, Try.f5.params[j]? = some t → args[j]? = some v → Value.okWide Try.prog W .any base t v := hval0
  have hA : DataW.TrodAll enc Try.prog W 0 (fun _ => true) true Try.f5.params.toList args.toList ds p := hA0
  have hsz : (DataW.weightsEach Try.prog Try.f5.params.toList ds).all (· ≤ reachBytes) = true := hsz0
  rw [Try.params5] at hA hval hsz
  clear hval0 hA0 hsz0
  obtain ⟨v0, vs0, d0, ds0, p0, q0, hargs, rfl, rfl, h0, r0⟩ := trodAll_cons hA
  obtain ⟨v1, vs1, d1, ds1, p1, q1, rfl, rfl, rfl, h1, r1⟩ := trodAll_cons r0
  obtain ⟨v2, vs2, d2, ds2, p2, q2, rfl, rfl, rfl, h2, r2⟩ := trodAll_cons r1
  obtain ⟨v3, vs3, d3, ds3, p3, q3, rfl, rfl, rfl, h3, r3⟩ := trodAll_cons r2
  obtain ⟨v4, vs4, d4, ds4, p4, q4, rfl, rfl, rfl, h4, r4⟩ := trodAll_cons r3
  obtain ⟨v5, vs5, d5, ds5, p5, q5, rfl, rfl, rfl, h5, r5⟩ := trodAll_cons r4
  obtain ⟨rfl, rfl, rfl⟩ := trodAll_nil r5
  obtain rfl : args = #[v0, v1, v2, v3, v4, v5] := by cases args; simp_all
  obtain ⟨al, capl, l, rfl, hl, gl⟩ := open_nodes (hval 0 22 v0 rfl rfl) h0 (fun x hx => hlt x (by simp [hx])) (fun es sp e => by subst e; have := sized_slice hsz (j := 0) rfl rfl Try.underlying22; rwa [bNode_] at this)
  obtain ⟨ax, capx, x, rfl, hx, zx, gx⟩ := open_exts (hval 1 23 v1 rfl rfl) h1 (fun x hx => hlt x (by simp [hx])) (fun es sp e => by subst e; have := sized_slice hsz (j := 1) rfl rfl Try.underlying23; rwa [bExt_] at this)
  obtain ⟨i, rfl, rfl, _, wi⟩ := open_int Try.underlying3 (hval 2 3 v2 rfl rfl) h2
  obtain ⟨k, rfl, rfl, _, wk⟩ := open_int Try.underlying3 (hval 3 3 v3 rfl rfl) h3
  obtain ⟨ce0, ce1, ce2, ce3, ye0, ye1, ye2, ye3, me, rfl, rfl, _, hye0, hye1, hye2, hye3⟩ := open_agg4 Try.underlying36 (by kernel_rfl) (by kernel_rfl) (hval 4 36 v4 rfl rfl) h4
  obtain ⟨et, ee0, _, _⟩ := DataW.trod_int Try.underlying3 hye0
  obtain ⟨en, ee1, _, _⟩ := DataW.trod_string Try.underlying9 hye1
  obtain ⟨ew, ee2, _, _⟩ := DataW.trod_int Try.underlying3 hye2
  obtain ⟨eh, ee3, _, _⟩ := DataW.trod_int Try.underlying3 hye3
  simp at ee0 ee1 ee2 ee3
  subst ee0 ee1 ee2 ee3
  obtain ⟨cv0, cv1, yv0, yv1, mv, rfl, rfl, _, hyv0, hyv1⟩ := open_agg2 Try.underlying25 (by kernel_rfl) (by kernel_rfl) (hval 5 25 v5 rfl rfl) h5
  obtain ⟨vw, ev0, _, _⟩ := DataW.trod_int Try.underlying3 hyv0
  obtain ⟨vh, ev1, _, _⟩ := DataW.trod_int Try.underlying3 hyv1
  simp at ev0 ev1
  subst ev0 ev1
  exact outside_walk hl hx (by simpa [reachBytes] using zx) i k ⟨et, en, ew, eh⟩ vw vh

/-- THE STATEMENT -/
theorem holderOutside_holds : Rows.HolderOutsideSaid :=
  OpenClaim.holds_of_wide 5 Try.f5 rfl rfl rfl rfl rfl rfl rfl ⟨rfl, rfl, rfl, rfl, rfl⟩ rfl rfl rfl rfl rfl (by kernel_rfl) Try.func5 (by kernel_rfl)
    (of_decide_eq_true (by kernel_rfl)) (by unfold Func.isWrapper; first | (rw [if_pos (by decide +kernel)]; kernel_rfl) | (rw [if_neg (by decide +kernel)]; exact ⟨rfl, rfl⟩))
    (fun os started H enc _ => holderOutside_lifted os started H enc)
#print axioms holderOutside_holds
end Go.Proofs.Ytckokehpdgjacaa
