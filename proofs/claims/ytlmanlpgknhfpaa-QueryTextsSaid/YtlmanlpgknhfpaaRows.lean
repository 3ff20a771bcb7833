/-
  No cell of these rows narrows 'for every input' (looked for: loops, veiled, ifaces, maps, wideKeys, modest, calm, conditions, laid).
  DERIVED. THE GIVEN ROWS OF THIS SEAT. 3 by the template 'for every input the law returns true; each argument reads behind the call as it read before'; 0 by the template 'total and deterministic' (their statements: YtlmanlpgknhfpaaTotals.lean).
  GIVEN WITH THE SEED: the statements are not yours to turn. If you find one false, say at which input.
  Laid BY PROGRAM, IN A SANDBOX (cutbox-rows.mjs): the forced cells as the released guide's own fill.sh prints them over the translation ed96761d8fe96e6b… (all of the seat's roots in one cut). By AI agents, Wed Nov 11 2026. No macro, syntax, notation, axiom, sorry.
-/
import Derived.Test.YtlmanlpgknhfpaaChecked
import GoSem.Claim
import GoSem.ClaimJoined
import GoSem.ClaimMapViews
import Derived.JoinedTies
import Derived.KernelRfl
namespace Go.Proofs.Ytlmanlpgknhfpaa
/- THE CELL 'sum', in the pinned program and in every row, IS THE sha256 OF THE DUMP (.gsa) THAT YtlmanlpgknhfpaaProg.lean LOADS. Nothing in Lean hashes anything: it is a label: what it is worth is what the hold of that sum in a sandbox is worth. -/
noncomputable def Try.pinned : Pinned := { name := "ytlmanlpgknhfpaa", sum := "ed96761d8fe96e6b596701791cc06c18b1a410fa928bd2baa43cb8d7db70f187", checked := Try.checked }
namespace Rows
def none {H : Type} : Left H := { results := [], args := [] }

/-- 'wainscotlaw08.QueryPrints': WHATEVER THE INPUT: true; the input reads as it did. -/
def queryPrintsSpec : ChangeSpec := { name := "queryPrints", fn := fun _ => fun
  | [d] => { results := [.lit (.bool true)], args := [d] }
  | _ => none }
def queryPrintsRow : OpenClaim := { program := "ytlmanlpgknhfpaa", sum := "ed96761d8fe96e6b596701791cc06c18b1a410fa928bd2baa43cb8d7db70f187", func := "wainscot/wainscotlaw08.QueryPrints", spec := "queryPrints", unfollowed := true, recurses := true, apart := false }
def QueryPrintsSaid : Prop := queryPrintsRow.holds Try.pinned (OpenSpec.ofChange queryPrintsSpec)

/-- ITS FALSE NEIGHBOUR: 'it returns false'. Refute it at one input. -/
def queryPrintsWrong : ChangeSpec := { name := "queryPrints", fn := fun _ => fun
  | [d] => { results := [.lit (.bool false)], args := [d] }
  | _ => none }
def QueryPrintsWrongFalsely : Prop := queryPrintsRow.holds Try.pinned (OpenSpec.ofChange queryPrintsWrong)

/-- 'wainscotlaw08.QueryTexts': WHATEVER THE INPUT: true; the input reads as it did. -/
def queryTextsSpec : ChangeSpec := { name := "queryTexts", fn := fun _ => fun
  | [d] => { results := [.lit (.bool true)], args := [d] }
  | _ => none }
def queryTextsRow : OpenClaim := { program := "ytlmanlpgknhfpaa", sum := "ed96761d8fe96e6b596701791cc06c18b1a410fa928bd2baa43cb8d7db70f187", func := "wainscot/wainscotlaw08.QueryTexts", spec := "queryTexts", unfollowed := true, recurses := true, apart := false }
def QueryTextsSaid : Prop := queryTextsRow.holds Try.pinned (OpenSpec.ofChange queryTextsSpec)

/-- ITS FALSE NEIGHBOUR: 'it returns false'. Refute it at one input. -/
def queryTextsWrong : ChangeSpec := { name := "queryTexts", fn := fun _ => fun
  | [d] => { results := [.lit (.bool false)], args := [d] }
  | _ => none }
def QueryTextsWrongFalsely : Prop := queryTextsRow.holds Try.pinned (OpenSpec.ofChange queryTextsWrong)

/-- 'wainscotlaw08.QueryBrackets': WHATEVER THE INPUT: true; the input reads as it did. -/
def queryBracketsSpec : ChangeSpec := { name := "queryBrackets", fn := fun _ => fun
  | [d1, d2] => { results := [.lit (.bool true)], args := [d1, d2] }
  | _ => none }
def queryBracketsRow : OpenClaim := { program := "ytlmanlpgknhfpaa", sum := "ed96761d8fe96e6b596701791cc06c18b1a410fa928bd2baa43cb8d7db70f187", func := "wainscot/wainscotlaw08.QueryBrackets", spec := "queryBrackets", unfollowed := true, recurses := true, apart := false }
def QueryBracketsSaid : Prop := queryBracketsRow.holds Try.pinned (OpenSpec.ofChange queryBracketsSpec)

/-- ITS FALSE NEIGHBOUR: 'it returns false'. Refute it at one input. -/
def queryBracketsWrong : ChangeSpec := { name := "queryBrackets", fn := fun _ => fun
  | [d1, d2] => { results := [.lit (.bool false)], args := [d1, d2] }
  | _ => none }
def QueryBracketsWrongFalsely : Prop := queryBracketsRow.holds Try.pinned (OpenSpec.ofChange queryBracketsWrong)

/- THE SECOND FORM. 'bulk': how many values and letters a reading holds, each counted each time it is reached (what is shared counts as often as it is met; a slice's spare places count too). A statement '..UptoSaid' is the law's where the arguments, and the package variables that the reading takes, are together of bulk at most 1048576: NARROWER than '..Said'. Prove '..Said' where nothing that the law and all that it calls make is longer than what came in: it says more and counts as full. Else prove '..UptoSaid'. A law counts once. -/
mutual
def uptoBulk {H : Type} : DataW H → Nat
  | .lit (.string bytes) => bytes.length + 1
  | .lit _ => 1
  | .nil => 1
  | .ptr d => uptoBulk d + 1
  | .slice elems spare => uptoBulkAll elems + uptoBulkAll spare + 1
  | .agg parts => uptoBulkAll parts + 1
  | .iface _ d => uptoBulk d + 1
  | .map entries => uptoBulkEntries entries + 1
  | .held _ => 1
def uptoBulkAll {H : Type} : List (DataW H) → Nat
  | [] => 0
  | d :: r => uptoBulk d + uptoBulkAll r
def uptoBulkEntries {H : Type} : List (Lit × DataW H) → Nat
  | [] => 0
  | x :: r => uptoBulkEntry x + uptoBulkEntries r
def uptoBulkEntry {H : Type} : Lit × DataW H → Nat
  | (.string bytes, d) => bytes.length + uptoBulk d + 1
  | (_, d) => uptoBulk d + 1
 end
def uptoSmall : (H : Type) → List (DataW H) → Bool := fun _ ds => decide (uptoBulkAll ds ≤ 1048576)
def OpenSpec.upto (s : _root_.Go.ChangeSpec) : _root_.Go.OpenSpec := { _root_.Go.OpenSpec.ofChange s with cond := some uptoSmall }

/-- 'wainscotlaw08.QueryPrints', WHERE WHAT IT READS IS OF BULK AT MOST 1048576: true; the input reads as it did. -/
def queryPrintsUptoRow : OpenClaim := { program := "ytlmanlpgknhfpaa", sum := "ed96761d8fe96e6b596701791cc06c18b1a410fa928bd2baa43cb8d7db70f187", func := "wainscot/wainscotlaw08.QueryPrints", spec := "queryPrints", unfollowed := true, recurses := true, apart := false, narrowed := true }
def QueryPrintsUptoSaid : Prop := queryPrintsUptoRow.holds Try.pinned (OpenSpec.upto queryPrintsSpec)

/-- 'wainscotlaw08.QueryTexts', WHERE WHAT IT READS IS OF BULK AT MOST 1048576: true; the input reads as it did. -/
def queryTextsUptoRow : OpenClaim := { program := "ytlmanlpgknhfpaa", sum := "ed96761d8fe96e6b596701791cc06c18b1a410fa928bd2baa43cb8d7db70f187", func := "wainscot/wainscotlaw08.QueryTexts", spec := "queryTexts", unfollowed := true, recurses := true, apart := false, narrowed := true }
def QueryTextsUptoSaid : Prop := queryTextsUptoRow.holds Try.pinned (OpenSpec.upto queryTextsSpec)

/-- 'wainscotlaw08.QueryBrackets', WHERE WHAT IT READS IS OF BULK AT MOST 1048576: true; the input reads as it did. -/
def queryBracketsUptoRow : OpenClaim := { program := "ytlmanlpgknhfpaa", sum := "ed96761d8fe96e6b596701791cc06c18b1a410fa928bd2baa43cb8d7db70f187", func := "wainscot/wainscotlaw08.QueryBrackets", spec := "queryBrackets", unfollowed := true, recurses := true, apart := false, narrowed := true }
def QueryBracketsUptoSaid : Prop := queryBracketsUptoRow.holds Try.pinned (OpenSpec.upto queryBracketsSpec)

end Rows
end Go.Proofs.Ytlmanlpgknhfpaa
