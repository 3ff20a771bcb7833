/-
  No cell of these rows narrows 'for every input' (looked for: loops, veiled, ifaces, maps, wideKeys, modest, calm, conditions, laid).
  DERIVED. THE GIVEN ROWS OF THIS SEAT. 3 by the template 'for every input the law returns true; each argument reads behind the call as it read before'; 0 by the template 'total and deterministic' (their statements: YtconlneohilnmaaTotals.lean).
  GIVEN WITH THE SEED: the statements are not yours to turn. If you find one false, say at which input.
  Laid BY PROGRAM, IN A SANDBOX (cutbox-rows.mjs): the forced cells as the released guide's own fill.sh prints them over the translation 8e2e5ca7872b56b8… (all of the seat's roots in one cut). By AI agents, Wed Nov 11 2026. No macro, syntax, notation, axiom, sorry.
-/
import Derived.Test.YtconlneohilnmaaChecked
import GoSem.Claim
import GoSem.ClaimJoined
import GoSem.ClaimMapViews
import Derived.JoinedTies
import Derived.KernelRfl
namespace Go.Proofs.Ytconlneohilnmaa
/- THE CELL 'sum', in the pinned program and in every row, IS THE sha256 OF THE DUMP (.gsa) THAT YtconlneohilnmaaProg.lean LOADS. Nothing in Lean hashes anything: it is a label: what it is worth is what the hold of that sum in a sandbox is worth. -/
noncomputable def Try.pinned : Pinned := { name := "ytconlneohilnmaa", sum := "8e2e5ca7872b56b8db69b1a265a79328bbba43bfec5f33b2a42832371d31a49e", checked := Try.checked }
namespace Rows
def none {H : Type} : Left H := { results := [], args := [] }

/-- 'wainscotlaw07.SelectorPrints': WHATEVER THE INPUT: true; the input reads as it did. -/
def selectorPrintsSpec : ChangeSpec := { name := "selectorPrints", fn := fun _ => fun
  | [d] => { results := [.lit (.bool true)], args := [d] }
  | _ => none }
def selectorPrintsRow : OpenClaim := { program := "ytconlneohilnmaa", sum := "8e2e5ca7872b56b8db69b1a265a79328bbba43bfec5f33b2a42832371d31a49e", func := "wainscot/wainscotlaw07.SelectorPrints", spec := "selectorPrints", unfollowed := true, recurses := true, apart := false }
def SelectorPrintsSaid : Prop := selectorPrintsRow.holds Try.pinned (OpenSpec.ofChange selectorPrintsSpec)

/-- ITS FALSE NEIGHBOUR: 'it returns false'. Refute it at one input. -/
def selectorPrintsWrong : ChangeSpec := { name := "selectorPrints", fn := fun _ => fun
  | [d] => { results := [.lit (.bool false)], args := [d] }
  | _ => none }
def SelectorPrintsWrongFalsely : Prop := selectorPrintsRow.holds Try.pinned (OpenSpec.ofChange selectorPrintsWrong)

/-- 'wainscotlaw07.SelectorTexts': WHATEVER THE INPUT: true; the input reads as it did. -/
def selectorTextsSpec : ChangeSpec := { name := "selectorTexts", fn := fun _ => fun
  | [d] => { results := [.lit (.bool true)], args := [d] }
  | _ => none }
def selectorTextsRow : OpenClaim := { program := "ytconlneohilnmaa", sum := "8e2e5ca7872b56b8db69b1a265a79328bbba43bfec5f33b2a42832371d31a49e", func := "wainscot/wainscotlaw07.SelectorTexts", spec := "selectorTexts", unfollowed := true, recurses := true, apart := false }
def SelectorTextsSaid : Prop := selectorTextsRow.holds Try.pinned (OpenSpec.ofChange selectorTextsSpec)

/-- ITS FALSE NEIGHBOUR: 'it returns false'. Refute it at one input. -/
def selectorTextsWrong : ChangeSpec := { name := "selectorTexts", fn := fun _ => fun
  | [d] => { results := [.lit (.bool false)], args := [d] }
  | _ => none }
def SelectorTextsWrongFalsely : Prop := selectorTextsRow.holds Try.pinned (OpenSpec.ofChange selectorTextsWrong)

/-- 'wainscotlaw07.SelectorLists': WHATEVER THE INPUT: true; the input reads as it did. -/
def selectorListsSpec : ChangeSpec := { name := "selectorLists", fn := fun _ => fun
  | [d1, d2] => { results := [.lit (.bool true)], args := [d1, d2] }
  | _ => none }
def selectorListsRow : OpenClaim := { program := "ytconlneohilnmaa", sum := "8e2e5ca7872b56b8db69b1a265a79328bbba43bfec5f33b2a42832371d31a49e", func := "wainscot/wainscotlaw07.SelectorLists", spec := "selectorLists", unfollowed := true, recurses := true, apart := false }
def SelectorListsSaid : Prop := selectorListsRow.holds Try.pinned (OpenSpec.ofChange selectorListsSpec)

/-- ITS FALSE NEIGHBOUR: 'it returns false'. Refute it at one input. -/
def selectorListsWrong : ChangeSpec := { name := "selectorLists", fn := fun _ => fun
  | [d1, d2] => { results := [.lit (.bool false)], args := [d1, d2] }
  | _ => none }
def SelectorListsWrongFalsely : Prop := selectorListsRow.holds Try.pinned (OpenSpec.ofChange selectorListsWrong)

/- THE SECOND FORM. 'bulk': how many values and letters a reading holds, each counted each time it is reached (what is shared counts as often as it is met; a slice's spare places count too). A statement '..UptoSaid' is the law's where the arguments, and the package variables that the reading takes, are together of bulk at most 1048576: NARROWER than '..Said'. Prove '..Said' where nothing that the law and all that it calls make is longer than what came in: it says more and counts as full. Else prove '..UptoSaid'. A law counts once. -/
mutual
def uptoBulk {H : Type} : DataW H → Nat
  | .lit (.string bytes) => bytes.length + 1
  | .lit _ => 1
  | .nil => 1
  | .ptr d => uptoBulk d + 1
  | .slice elems spare => uptoBulkAll elems + uptoBulkAll spare + 1
  | .agg parts => uptoBulkAll parts + 1
  | .iface _ d => uptoBulk d + 1
  | .map entries => uptoBulkEntries entries + 1
  | .held _ => 1
def uptoBulkAll {H : Type} : List (DataW H) → Nat
  | [] => 0
  | d :: r => uptoBulk d + uptoBulkAll r
def uptoBulkEntries {H : Type} : List (Lit × DataW H) → Nat
  | [] => 0
  | x :: r => uptoBulkEntry x + uptoBulkEntries r
def uptoBulkEntry {H : Type} : Lit × DataW H → Nat
  | (.string bytes, d) => bytes.length + uptoBulk d + 1
  | (_, d) => uptoBulk d + 1
 end
def uptoSmall : (H : Type) → List (DataW H) → Bool := fun _ ds => decide (uptoBulkAll ds ≤ 1048576)
def OpenSpec.upto (s : _root_.Go.ChangeSpec) : _root_.Go.OpenSpec := { _root_.Go.OpenSpec.ofChange s with cond := some uptoSmall }

/-- 'wainscotlaw07.SelectorPrints', WHERE WHAT IT READS IS OF BULK AT MOST 1048576: true; the input reads as it did. -/
def selectorPrintsUptoRow : OpenClaim := { program := "ytconlneohilnmaa", sum := "8e2e5ca7872b56b8db69b1a265a79328bbba43bfec5f33b2a42832371d31a49e", func := "wainscot/wainscotlaw07.SelectorPrints", spec := "selectorPrints", unfollowed := true, recurses := true, apart := false, narrowed := true }
def SelectorPrintsUptoSaid : Prop := selectorPrintsUptoRow.holds Try.pinned (OpenSpec.upto selectorPrintsSpec)

/-- 'wainscotlaw07.SelectorTexts', WHERE WHAT IT READS IS OF BULK AT MOST 1048576: true; the input reads as it did. -/
def selectorTextsUptoRow : OpenClaim := { program := "ytconlneohilnmaa", sum := "8e2e5ca7872b56b8db69b1a265a79328bbba43bfec5f33b2a42832371d31a49e", func := "wainscot/wainscotlaw07.SelectorTexts", spec := "selectorTexts", unfollowed := true, recurses := true, apart := false, narrowed := true }
def SelectorTextsUptoSaid : Prop := selectorTextsUptoRow.holds Try.pinned (OpenSpec.upto selectorTextsSpec)

/-- 'wainscotlaw07.SelectorLists', WHERE WHAT IT READS IS OF BULK AT MOST 1048576: true; the input reads as it did. -/
def selectorListsUptoRow : OpenClaim := { program := "ytconlneohilnmaa", sum := "8e2e5ca7872b56b8db69b1a265a79328bbba43bfec5f33b2a42832371d31a49e", func := "wainscot/wainscotlaw07.SelectorLists", spec := "selectorLists", unfollowed := true, recurses := true, apart := false, narrowed := true }
def SelectorListsUptoSaid : Prop := selectorListsUptoRow.holds Try.pinned (OpenSpec.upto selectorListsSpec)

end Rows
end Go.Proofs.Ytconlneohilnmaa
