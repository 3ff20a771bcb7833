/-
  One node, opened as an argument.
-/
import Derived.Test.YtckokehpdgjacaaOpen2
namespace Go.Proofs.Ytckokehpdgjacaa
open Go.RowKit Go.ChangeShapes Go.WideShapes Go.ChangeAt Go.Deep
set_option linter.unusedVariables false

theorem open_nodeX {H : Type} {enc : TypeId × Value → H} {W : World} {r : Reach} {b : Nat} {v : Value} {d : DataW H} {p : List MemPlace} (hv : Value.okWide Try.prog W r b 54 v) (h : DataW.Trod enc Try.prog W 0 (fun _ => true) true 54 v d p) (hlt : ∀ x ∈ p, x.block < W.heap.size) (hsz : FitsD Try.prog 54 d) :
    ∃ (y : NodeV) (C : List ByteArray) (A : List AttrV), v = y.val ∧ NodeX W y C A := by
  obtain ⟨cs, rfl, hs⟩ := okWide_struct Try.underlying54 hv
  obtain ⟨fuel, hf⟩ := h
  have hv1 : (Value.agg cs).cells.toList = cs.toList := rfl
  rw [hv1] at hf
  obtain ⟨y, e, C, A, hx⟩ := elem_nodeX hf hsz hlt
  refine ⟨y, C, A, ?_, hx⟩
  show Value.agg cs = .agg y.cells.toArray
  rw [← e]

end Go.Proofs.Ytckokehpdgjacaa
