/-
  No cell of these rows narrows 'for every input' (looked for: loops, veiled, ifaces, maps, wideKeys, modest, calm, conditions, laid).
  DERIVED. THE GIVEN ROWS OF THIS SEAT. 5 by the template 'for every input the law returns true; each argument reads behind the call as it read before'; 0 by the template 'total and deterministic' (their statements: YtglkdhmikpejnaaTotals.lean).
  GIVEN WITH THE SEED: the statements are not yours to turn. If you find one false, say at which input.
  Laid BY PROGRAM, IN A SANDBOX (cutbox-rows.mjs): the forced cells as the released guide's own fill.sh prints them over the translation 987816d564617270… (all of the seat's roots in one cut). By AI agents, Wed Nov 11 2026. No macro, syntax, notation, axiom, sorry.
-/
import Derived.Test.YtglkdhmikpejnaaChecked
import GoSem.Claim
import GoSem.ClaimJoined
import GoSem.ClaimMapViews
import Derived.JoinedTies
import Derived.KernelRfl
namespace Go.Proofs.Ytglkdhmikpejnaa
/- THE CELL 'sum', in the pinned program and in every row, IS THE sha256 OF THE DUMP (.gsa) THAT YtglkdhmikpejnaaProg.lean LOADS. Nothing in Lean hashes anything: it is a label: what it is worth is what the hold of that sum in a sandbox is worth. -/
noncomputable def Try.pinned : Pinned := { name := "ytglkdhmikpejnaa", sum := "987816d56461727088c1de8bae946b4605b1a458cfdc9bfd80f81767ba0683d8", checked := Try.checked }
namespace Rows
def none {H : Type} : Left H := { results := [], args := [] }

/-- 'wainscotlaw11.MarkupBlanks': WHATEVER THE INPUT: true; the input reads as it did. -/
def markupBlanksSpec : ChangeSpec := { name := "markupBlanks", fn := fun _ => fun
  | [d1, d2] => { results := [.lit (.bool true)], args := [d1, d2] }
  | _ => none }
def markupBlanksRow : OpenClaim := { program := "ytglkdhmikpejnaa", sum := "987816d56461727088c1de8bae946b4605b1a458cfdc9bfd80f81767ba0683d8", func := "wainscot/wainscotlaw11.MarkupBlanks", spec := "markupBlanks", unfollowed := true, recurses := true, apart := false }
def MarkupBlanksSaid : Prop := markupBlanksRow.holds Try.pinned (OpenSpec.ofChange markupBlanksSpec)

/-- ITS FALSE NEIGHBOUR: 'it returns false'. Refute it at one input. -/
def markupBlanksWrong : ChangeSpec := { name := "markupBlanks", fn := fun _ => fun
  | [d1, d2] => { results := [.lit (.bool false)], args := [d1, d2] }
  | _ => none }
def MarkupBlanksWrongFalsely : Prop := markupBlanksRow.holds Try.pinned (OpenSpec.ofChange markupBlanksWrong)

/-- 'wainscotlaw11.MarkupDeep': WHATEVER THE INPUT: true; the input reads as it did. -/
def markupDeepSpec : ChangeSpec := { name := "markupDeep", fn := fun _ => fun
  | [d] => { results := [.lit (.bool true)], args := [d] }
  | _ => none }
def markupDeepRow : OpenClaim := { program := "ytglkdhmikpejnaa", sum := "987816d56461727088c1de8bae946b4605b1a458cfdc9bfd80f81767ba0683d8", func := "wainscot/wainscotlaw11.MarkupDeep", spec := "markupDeep", unfollowed := true, recurses := true, apart := false }
def MarkupDeepSaid : Prop := markupDeepRow.holds Try.pinned (OpenSpec.ofChange markupDeepSpec)

/-- ITS FALSE NEIGHBOUR: 'it returns false'. Refute it at one input. -/
def markupDeepWrong : ChangeSpec := { name := "markupDeep", fn := fun _ => fun
  | [d] => { results := [.lit (.bool false)], args := [d] }
  | _ => none }
def MarkupDeepWrongFalsely : Prop := markupDeepRow.holds Try.pinned (OpenSpec.ofChange markupDeepWrong)

/-- 'wainscotlaw11.MarkupWide': WHATEVER THE INPUT: true; the input reads as it did. -/
def markupWideSpec : ChangeSpec := { name := "markupWide", fn := fun _ => fun
  | [d] => { results := [.lit (.bool true)], args := [d] }
  | _ => none }
def markupWideRow : OpenClaim := { program := "ytglkdhmikpejnaa", sum := "987816d56461727088c1de8bae946b4605b1a458cfdc9bfd80f81767ba0683d8", func := "wainscot/wainscotlaw11.MarkupWide", spec := "markupWide", unfollowed := true, recurses := true, apart := false }
def MarkupWideSaid : Prop := markupWideRow.holds Try.pinned (OpenSpec.ofChange markupWideSpec)

/-- ITS FALSE NEIGHBOUR: 'it returns false'. Refute it at one input. -/
def markupWideWrong : ChangeSpec := { name := "markupWide", fn := fun _ => fun
  | [d] => { results := [.lit (.bool false)], args := [d] }
  | _ => none }
def MarkupWideWrongFalsely : Prop := markupWideRow.holds Try.pinned (OpenSpec.ofChange markupWideWrong)

/-- 'wainscotlaw11.MarkupBack': WHATEVER THE INPUT: true; the input reads as it did. -/
def markupBackSpec : ChangeSpec := { name := "markupBack", fn := fun _ => fun
  | [d] => { results := [.lit (.bool true)], args := [d] }
  | _ => none }
def markupBackRow : OpenClaim := { program := "ytglkdhmikpejnaa", sum := "987816d56461727088c1de8bae946b4605b1a458cfdc9bfd80f81767ba0683d8", func := "wainscot/wainscotlaw11.MarkupBack", spec := "markupBack", inPlace := ["internal/abi.NoEscape"], unfollowed := true, recurses := true, apart := false }
def MarkupBackSaid : Prop := markupBackRow.holds Try.pinned (OpenSpec.ofChange markupBackSpec)

/-- ITS FALSE NEIGHBOUR: 'it returns false'. Refute it at one input. -/
def markupBackWrong : ChangeSpec := { name := "markupBack", fn := fun _ => fun
  | [d] => { results := [.lit (.bool false)], args := [d] }
  | _ => none }
def MarkupBackWrongFalsely : Prop := markupBackRow.holds Try.pinned (OpenSpec.ofChange markupBackWrong)

/-- 'wainscotlaw11.MarkupAgain': WHATEVER THE INPUT: true; the input reads as it did. -/
def markupAgainSpec : ChangeSpec := { name := "markupAgain", fn := fun _ => fun
  | [d] => { results := [.lit (.bool true)], args := [d] }
  | _ => none }
def markupAgainRow : OpenClaim := { program := "ytglkdhmikpejnaa", sum := "987816d56461727088c1de8bae946b4605b1a458cfdc9bfd80f81767ba0683d8", func := "wainscot/wainscotlaw11.MarkupAgain", spec := "markupAgain", inPlace := ["internal/abi.NoEscape"], unfollowed := true, recurses := true, apart := false }
def MarkupAgainSaid : Prop := markupAgainRow.holds Try.pinned (OpenSpec.ofChange markupAgainSpec)

/-- ITS FALSE NEIGHBOUR: 'it returns false'. Refute it at one input. -/
def markupAgainWrong : ChangeSpec := { name := "markupAgain", fn := fun _ => fun
  | [d] => { results := [.lit (.bool false)], args := [d] }
  | _ => none }
def MarkupAgainWrongFalsely : Prop := markupAgainRow.holds Try.pinned (OpenSpec.ofChange markupAgainWrong)

/- THE SECOND FORM. 'bulk': how many values and letters a reading holds, each counted each time it is reached (what is shared counts as often as it is met; a slice's spare places count too). A statement '..UptoSaid' is the law's where the arguments, and the package variables that the reading takes, are together of bulk at most 1048576: NARROWER than '..Said'. Prove '..Said' where nothing that the law and all that it calls make is longer than what came in: it says more and counts as full. Else prove '..UptoSaid'. A law counts once. -/
mutual
def uptoBulk {H : Type} : DataW H → Nat
  | .lit (.string bytes) => bytes.length + 1
  | .lit _ => 1
  | .nil => 1
  | .ptr d => uptoBulk d + 1
  | .slice elems spare => uptoBulkAll elems + uptoBulkAll spare + 1
  | .agg parts => uptoBulkAll parts + 1
  | .iface _ d => uptoBulk d + 1
  | .map entries => uptoBulkEntries entries + 1
  | .held _ => 1
def uptoBulkAll {H : Type} : List (DataW H) → Nat
  | [] => 0
  | d :: r => uptoBulk d + uptoBulkAll r
def uptoBulkEntries {H : Type} : List (Lit × DataW H) → Nat
  | [] => 0
  | x :: r => uptoBulkEntry x + uptoBulkEntries r
def uptoBulkEntry {H : Type} : Lit × DataW H → Nat
  | (.string bytes, d) => bytes.length + uptoBulk d + 1
  | (_, d) => uptoBulk d + 1
 end
def uptoSmall : (H : Type) → List (DataW H) → Bool := fun _ ds => decide (uptoBulkAll ds ≤ 1048576)
def OpenSpec.upto (s : _root_.Go.ChangeSpec) : _root_.Go.OpenSpec := { _root_.Go.OpenSpec.ofChange s with cond := some uptoSmall }

/-- 'wainscotlaw11.MarkupBlanks', WHERE WHAT IT READS IS OF BULK AT MOST 1048576: true; the input reads as it did. -/
def markupBlanksUptoRow : OpenClaim := { program := "ytglkdhmikpejnaa", sum := "987816d56461727088c1de8bae946b4605b1a458cfdc9bfd80f81767ba0683d8", func := "wainscot/wainscotlaw11.MarkupBlanks", spec := "markupBlanks", unfollowed := true, recurses := true, apart := false, narrowed := true }
def MarkupBlanksUptoSaid : Prop := markupBlanksUptoRow.holds Try.pinned (OpenSpec.upto markupBlanksSpec)

/-- 'wainscotlaw11.MarkupDeep', WHERE WHAT IT READS IS OF BULK AT MOST 1048576: true; the input reads as it did. -/
def markupDeepUptoRow : OpenClaim := { program := "ytglkdhmikpejnaa", sum := "987816d56461727088c1de8bae946b4605b1a458cfdc9bfd80f81767ba0683d8", func := "wainscot/wainscotlaw11.MarkupDeep", spec := "markupDeep", unfollowed := true, recurses := true, apart := false, narrowed := true }
def MarkupDeepUptoSaid : Prop := markupDeepUptoRow.holds Try.pinned (OpenSpec.upto markupDeepSpec)

/-- 'wainscotlaw11.MarkupWide', WHERE WHAT IT READS IS OF BULK AT MOST 1048576: true; the input reads as it did. -/
def markupWideUptoRow : OpenClaim := { program := "ytglkdhmikpejnaa", sum := "987816d56461727088c1de8bae946b4605b1a458cfdc9bfd80f81767ba0683d8", func := "wainscot/wainscotlaw11.MarkupWide", spec := "markupWide", unfollowed := true, recurses := true, apart := false, narrowed := true }
def MarkupWideUptoSaid : Prop := markupWideUptoRow.holds Try.pinned (OpenSpec.upto markupWideSpec)

/-- 'wainscotlaw11.MarkupBack', WHERE WHAT IT READS IS OF BULK AT MOST 1048576: true; the input reads as it did. -/
def markupBackUptoRow : OpenClaim := { program := "ytglkdhmikpejnaa", sum := "987816d56461727088c1de8bae946b4605b1a458cfdc9bfd80f81767ba0683d8", func := "wainscot/wainscotlaw11.MarkupBack", spec := "markupBack", inPlace := ["internal/abi.NoEscape"], unfollowed := true, recurses := true, apart := false, narrowed := true }
def MarkupBackUptoSaid : Prop := markupBackUptoRow.holds Try.pinned (OpenSpec.upto markupBackSpec)

/-- 'wainscotlaw11.MarkupAgain', WHERE WHAT IT READS IS OF BULK AT MOST 1048576: true; the input reads as it did. -/
def markupAgainUptoRow : OpenClaim := { program := "ytglkdhmikpejnaa", sum := "987816d56461727088c1de8bae946b4605b1a458cfdc9bfd80f81767ba0683d8", func := "wainscot/wainscotlaw11.MarkupAgain", spec := "markupAgain", inPlace := ["internal/abi.NoEscape"], unfollowed := true, recurses := true, apart := false, narrowed := true }
def MarkupAgainUptoSaid : Prop := markupAgainUptoRow.holds Try.pinned (OpenSpec.upto markupAgainSpec)

end Rows
end Go.Proofs.Ytglkdhmikpejnaa
