/-
  Parts of selectors, as values.
-/
import Derived.Test.YtmlhipckgmbpfaaGreatSyT
namespace Go.Proofs.YtmlhipckgmbpfaaGreat
open Go Go.RowKit Sy
set_option linter.unusedVariables false
set_option linter.unusedSimpArgs false

structure TestV where
  name : ByteArray
  equal : Bool
  value : ByteArray
def TestV.cells (y : TestV) : List Value := [.string y.name, .bool y.equal, .string y.value]
def testNone : TestV := ⟨⟨#[]⟩, false, ⟨#[]⟩⟩
def strCells (y : ByteArray) : List Value := [.string y]
structure PartV where
  comb : Int
  tag : ByteArray
  id : ByteArray
  cls : List ByteArray
  tests : List TestV
  states : Int
def partNone : PartV := ⟨0, ⟨#[]⟩, ⟨#[]⟩, [], [], 0⟩
abbrev Sy.cview (l : List ByteArray) : AV := viewOf strCells ⟨#[]⟩ 1 l
abbrev Sy.tview (l : List TestV) : AV := viewOf TestV.cells testNone 3 l
def Sy.partA (p : PartV) (j : Nat) : AV := match j with
  | 0 => int p.comb
  | 1 => .lit (.string p.tag)
  | 2 => .lit (.string p.id)
  | 3 => cview p.cls
  | 4 => tview p.tests
  | _ => int p.states
def Sy.pcell (ps : List PartV) (i j : Nat) : AV := partA (ps.getD i partNone) j
abbrev Sy.pview (ps : List PartV) : AV := .view ps.length 6 (pcell ps)
theorem Sy.partA_free (p : PartV) (j : Nat) : Free (partA p j) := by
  match j with
  | 0 => trivial
  | 1 => trivial
  | 2 => trivial
  | 3 => exact viewOf_free strCells ⟨#[]⟩ 1 _
  | 4 => exact viewOf_free TestV.cells testNone 3 _
  | j + 5 => trivial
theorem Sy.pview_free (ps : List PartV) : Free (pview ps) := fun i j => partA_free _ j

end Go.Proofs.YtmlhipckgmbpfaaGreat
