/-
  Two selectors as arguments.
-/
import Derived.Test.YtijmldgdcknbnaaOpenS
import Derived.Test.YtijmldgdcknbnaaSelK
namespace Go.Proofs.Ytijmldgdcknbnaa
open Go Go.RowKit Go.ChangeShapes Go.WideShapes Go.ChangeAt Go.Deep
set_option linter.unusedVariables false
theorem parts_ok {W : World} {a : Option Addr} {cap : Nat} {l : List PRow} (h : Rows PRow.cells 6 W a cap l) (hq : ∀ q ∈ l, RowIn W q) : PartsOk (l.map PRow.p) ∧ StatesOk (l.map PRow.p) := by
  have hl : (l.map PRow.p).length ≤ 17592186044416 := by rw [List.length_map]; exact h.sm
  refine ⟨⟨hl, fun p hp => ?_⟩, hl, fun p hp => ?_⟩
  · obtain ⟨r, hr, rfl⟩ := List.mem_map.1 hp
    obtain ⟨r1, r2, q1, q2, q3, q4, q5⟩ := hq r hr
    exact ⟨q1, q2, ⟨r1.sm, q3⟩, r2.sm, q4⟩
  · obtain ⟨r, hr, rfl⟩ := List.mem_map.1 hp
    obtain ⟨r1, r2, q1, q2, q3, q4, q5⟩ := hq r hr
    exact q5
theorem rights_walk {W : World} {a b : Option Addr} {cap cbp : Nat} {l m : List PRow} (h : Rows PRow.cells 6 W a cap l) (hq : ∀ q ∈ l, RowIn W q) (h' : Rows PRow.cells 6 W b cbp m) (hq' : ∀ q ∈ m, RowIn W q) :
    Calls Try.prog 6 #[.agg #[.slice a l.length cap], .agg #[.slice b m.length cbp]] W fun e w' => e = .returned (.bool true) ∧ Below W.heap.size W w' :=
  law_trueS (Sy.rights_t (l.map PRow.p) (m.map PRow.p) (parts_ok h hq).1 (parts_ok h hq).2 (by rw [List.length_map]; exact h'.sm)) (us := [_, _]) ⟨_, _, rfl, (by
    simp only [Sy.rel]
    exact ⟨[.slice a l.length cap], rfl, _, _, rfl, rel_pview h hq, rfl⟩), _, _, rfl, (by
    simp only [Sy.rel]
    exact ⟨[.slice b m.length cbp], rfl, _, _, rfl, rel_pview h' hq', rfl⟩), rfl⟩
end Go.Proofs.Ytijmldgdcknbnaa
