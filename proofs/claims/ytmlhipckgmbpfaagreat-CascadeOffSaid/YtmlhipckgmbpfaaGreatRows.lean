/-
  No cell of these rows narrows 'for every input' (looked for: loops, veiled, ifaces, maps, wideKeys, modest, calm, conditions, laid).
  DERIVED. THE GIVEN ROWS OF THIS SEAT. 3 by the template 'for every input the law returns true; each argument reads behind the call as it read before'; 0 by the template 'total and deterministic' (their statements: YtmlhipckgmbpfaaGreatTotals.lean).
  GIVEN WITH THE SEED: the statements are not yours to turn. If you find one false, say at which input.
  Laid BY PROGRAM, IN A SANDBOX (cutbox-rows.mjs): the forced cells as the released guide's own fill.sh prints them over the translation 99f5adf6257988d9… (all of the seat's roots in one cut). By AI agents, Wed Nov 11 2026. No macro, syntax, notation, axiom, sorry.
-/
import Derived.Test.YtmlhipckgmbpfaaGreatChecked
import GoSem.Claim
import GoSem.ClaimJoined
import GoSem.ClaimMapViews
import Derived.JoinedTies
import Derived.KernelRfl
namespace Go.Proofs.YtmlhipckgmbpfaaGreat
/- THE CELL 'sum', in the pinned program and in every row, IS THE sha256 OF THE DUMP (.gsa) THAT YtmlhipckgmbpfaaGreatProg.lean LOADS. Nothing in Lean hashes anything: it is a label: what it is worth is what the hold of that sum in a sandbox is worth. -/
noncomputable def Tryz.pinned : Pinned := { name := "ytmlhipckgmbpfaagreat", sum := "99f5adf6257988d9191125ec522f3fccf05a51c7bcc13301cd8ee5c0fc703bb9", checked := Tryz.checked }
namespace Rows
def none {H : Type} : Left H := { results := [], args := [] }

/-- 'wainscotlaw16.CascadeOff': WHATEVER THE INPUT: true; the input reads as it did. -/
def cascadeOffSpec : ChangeSpec := { name := "cascadeOff", fn := fun _ => fun
  | [d1, d2, d3, d4] => { results := [.lit (.bool true)], args := [d1, d2, d3, d4] }
  | _ => none }
def cascadeOffRow : OpenClaim := { program := "ytmlhipckgmbpfaagreat", sum := "99f5adf6257988d9191125ec522f3fccf05a51c7bcc13301cd8ee5c0fc703bb9", func := "wainscot/wainscotlaw16.CascadeOff", spec := "cascadeOff", unfollowed := true, recurses := true, apart := false }
def CascadeOffSaid : Prop := cascadeOffRow.holds Tryz.pinned (OpenSpec.ofChange cascadeOffSpec)

/-- ITS FALSE NEIGHBOUR: 'it returns false'. Refute it at one input. -/
def cascadeOffWrong : ChangeSpec := { name := "cascadeOff", fn := fun _ => fun
  | [d1, d2, d3, d4] => { results := [.lit (.bool false)], args := [d1, d2, d3, d4] }
  | _ => none }
def CascadeOffWrongFalsely : Prop := cascadeOffRow.holds Tryz.pinned (OpenSpec.ofChange cascadeOffWrong)

/-- 'wainscotlaw16.CascadeBehind': WHATEVER THE INPUT: true; the input reads as it did. -/
def cascadeBehindSpec : ChangeSpec := { name := "cascadeBehind", fn := fun _ => fun
  | [d1, d2, d3, d4, d5, d6] => { results := [.lit (.bool true)], args := [d1, d2, d3, d4, d5, d6] }
  | _ => none }
def cascadeBehindRow : OpenClaim := { program := "ytmlhipckgmbpfaagreat", sum := "99f5adf6257988d9191125ec522f3fccf05a51c7bcc13301cd8ee5c0fc703bb9", func := "wainscot/wainscotlaw16.CascadeBehind", spec := "cascadeBehind", unfollowed := true, recurses := true, apart := false }
def CascadeBehindSaid : Prop := cascadeBehindRow.holds Tryz.pinned (OpenSpec.ofChange cascadeBehindSpec)

/-- ITS FALSE NEIGHBOUR: 'it returns false'. Refute it at one input. -/
def cascadeBehindWrong : ChangeSpec := { name := "cascadeBehind", fn := fun _ => fun
  | [d1, d2, d3, d4, d5, d6] => { results := [.lit (.bool false)], args := [d1, d2, d3, d4, d5, d6] }
  | _ => none }
def CascadeBehindWrongFalsely : Prop := cascadeBehindRow.holds Tryz.pinned (OpenSpec.ofChange cascadeBehindWrong)

/-- 'wainscotlaw16.CascadeLoud': WHATEVER THE INPUT: true; the input reads as it did. -/
def cascadeLoudSpec : ChangeSpec := { name := "cascadeLoud", fn := fun _ => fun
  | [d1, d2, d3, d4, d5, d6] => { results := [.lit (.bool true)], args := [d1, d2, d3, d4, d5, d6] }
  | _ => none }
def cascadeLoudRow : OpenClaim := { program := "ytmlhipckgmbpfaagreat", sum := "99f5adf6257988d9191125ec522f3fccf05a51c7bcc13301cd8ee5c0fc703bb9", func := "wainscot/wainscotlaw16.CascadeLoud", spec := "cascadeLoud", unfollowed := true, recurses := true, apart := false }
def CascadeLoudSaid : Prop := cascadeLoudRow.holds Tryz.pinned (OpenSpec.ofChange cascadeLoudSpec)

/-- ITS FALSE NEIGHBOUR: 'it returns false'. Refute it at one input. -/
def cascadeLoudWrong : ChangeSpec := { name := "cascadeLoud", fn := fun _ => fun
  | [d1, d2, d3, d4, d5, d6] => { results := [.lit (.bool false)], args := [d1, d2, d3, d4, d5, d6] }
  | _ => none }
def CascadeLoudWrongFalsely : Prop := cascadeLoudRow.holds Tryz.pinned (OpenSpec.ofChange cascadeLoudWrong)

/- THE SECOND FORM. 'bulk': how many values and letters a reading holds, each counted each time it is reached (what is shared counts as often as it is met; a slice's spare places count too). A statement '..UptoSaid' is the law's where the arguments, and the package variables that the reading takes, are together of bulk at most 1048576: NARROWER than '..Said'. Prove '..Said' where nothing that the law and all that it calls make is longer than what came in: it says more and counts as full. Else prove '..UptoSaid'. A law counts once. -/
mutual
def uptoBulk {H : Type} : DataW H → Nat
  | .lit (.string bytes) => bytes.length + 1
  | .lit _ => 1
  | .nil => 1
  | .ptr d => uptoBulk d + 1
  | .slice elems spare => uptoBulkAll elems + uptoBulkAll spare + 1
  | .agg parts => uptoBulkAll parts + 1
  | .iface _ d => uptoBulk d + 1
  | .map entries => uptoBulkEntries entries + 1
  | .held _ => 1
def uptoBulkAll {H : Type} : List (DataW H) → Nat
  | [] => 0
  | d :: r => uptoBulk d + uptoBulkAll r
def uptoBulkEntries {H : Type} : List (Lit × DataW H) → Nat
  | [] => 0
  | x :: r => uptoBulkEntry x + uptoBulkEntries r
def uptoBulkEntry {H : Type} : Lit × DataW H → Nat
  | (.string bytes, d) => bytes.length + uptoBulk d + 1
  | (_, d) => uptoBulk d + 1
 end
def uptoSmall : (H : Type) → List (DataW H) → Bool := fun _ ds => decide (uptoBulkAll ds ≤ 1048576)
def OpenSpec.upto (s : _root_.Go.ChangeSpec) : _root_.Go.OpenSpec := { _root_.Go.OpenSpec.ofChange s with cond := some uptoSmall }

/-- 'wainscotlaw16.CascadeOff', WHERE WHAT IT READS IS OF BULK AT MOST 1048576: true; the input reads as it did. -/
def cascadeOffUptoRow : OpenClaim := { program := "ytmlhipckgmbpfaagreat", sum := "99f5adf6257988d9191125ec522f3fccf05a51c7bcc13301cd8ee5c0fc703bb9", func := "wainscot/wainscotlaw16.CascadeOff", spec := "cascadeOff", unfollowed := true, recurses := true, apart := false, narrowed := true }
def CascadeOffUptoSaid : Prop := cascadeOffUptoRow.holds Tryz.pinned (OpenSpec.upto cascadeOffSpec)

/-- 'wainscotlaw16.CascadeBehind', WHERE WHAT IT READS IS OF BULK AT MOST 1048576: true; the input reads as it did. -/
def cascadeBehindUptoRow : OpenClaim := { program := "ytmlhipckgmbpfaagreat", sum := "99f5adf6257988d9191125ec522f3fccf05a51c7bcc13301cd8ee5c0fc703bb9", func := "wainscot/wainscotlaw16.CascadeBehind", spec := "cascadeBehind", unfollowed := true, recurses := true, apart := false, narrowed := true }
def CascadeBehindUptoSaid : Prop := cascadeBehindUptoRow.holds Tryz.pinned (OpenSpec.upto cascadeBehindSpec)

/-- 'wainscotlaw16.CascadeLoud', WHERE WHAT IT READS IS OF BULK AT MOST 1048576: true; the input reads as it did. -/
def cascadeLoudUptoRow : OpenClaim := { program := "ytmlhipckgmbpfaagreat", sum := "99f5adf6257988d9191125ec522f3fccf05a51c7bcc13301cd8ee5c0fc703bb9", func := "wainscot/wainscotlaw16.CascadeLoud", spec := "cascadeLoud", unfollowed := true, recurses := true, apart := false, narrowed := true }
def CascadeLoudUptoSaid : Prop := cascadeLoudUptoRow.holds Tryz.pinned (OpenSpec.upto cascadeLoudSpec)

end Rows
end Go.Proofs.YtmlhipckgmbpfaaGreat
