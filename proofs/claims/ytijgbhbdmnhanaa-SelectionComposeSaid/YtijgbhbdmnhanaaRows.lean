/-
  No cell of these rows narrows 'for every input' (looked for: loops, veiled, ifaces, maps, wideKeys, modest, calm, conditions, laid).
  DERIVED. THE GIVEN ROWS OF THIS SEAT. 4 by the template 'for every input the law returns true; each argument reads behind the call as it read before'; 0 by the template 'total and deterministic' (their statements: YtijgbhbdmnhanaaTotals.lean).
  GIVEN WITH THE SEED: the statements are not yours to turn. If you find one false, say at which input.
  Laid BY PROGRAM, IN A SANDBOX (cutbox-rows.mjs): the forced cells as the released guide's own fill.sh prints them over the translation df41005ee4666816… (all of the seat's roots in one cut). By AI agents, Wed Nov 11 2026. No macro, syntax, notation, axiom, sorry.
-/
import Derived.Test.YtijgbhbdmnhanaaChecked
import GoSem.Claim
import GoSem.ClaimJoined
import GoSem.ClaimMapViews
import Derived.JoinedTies
import Derived.KernelRfl
namespace Go.Proofs.Ytijgbhbdmnhanaa
/- THE CELL 'sum', in the pinned program and in every row, IS THE sha256 OF THE DUMP (.gsa) THAT YtijgbhbdmnhanaaProg.lean LOADS. Nothing in Lean hashes anything: it is a label: what it is worth is what the hold of that sum in a sandbox is worth. -/
noncomputable def Try.pinned : Pinned := { name := "ytijgbhbdmnhanaa", sum := "df41005ee4666816ec2197f80151983039729d017d7d38cc281d2f81642ac302", checked := Try.checked }
namespace Rows
def none {H : Type} : Left H := { results := [], args := [] }

/-- 'laminalaw41.SelectionSets': WHATEVER THE INPUT: true; the input reads as it did. -/
def selectionSetsSpec : ChangeSpec := { name := "selectionSets", fn := fun _ => fun
  | [d1, d2, d3] => { results := [.lit (.bool true)], args := [d1, d2, d3] }
  | _ => none }
def selectionSetsRow : OpenClaim := { program := "ytijgbhbdmnhanaa", sum := "df41005ee4666816ec2197f80151983039729d017d7d38cc281d2f81642ac302", func := "lamina/laminalaw41.SelectionSets", spec := "selectionSets", unfollowed := true, recurses := true, apart := false }
def SelectionSetsSaid : Prop := selectionSetsRow.holds Try.pinned (OpenSpec.ofChange selectionSetsSpec)

/-- ITS FALSE NEIGHBOUR: 'it returns false'. Refute it at one input. -/
def selectionSetsWrong : ChangeSpec := { name := "selectionSets", fn := fun _ => fun
  | [d1, d2, d3] => { results := [.lit (.bool false)], args := [d1, d2, d3] }
  | _ => none }
def SelectionSetsWrongFalsely : Prop := selectionSetsRow.holds Try.pinned (OpenSpec.ofChange selectionSetsWrong)

/-- 'laminalaw41.SelectionApply': WHATEVER THE INPUT: true; the input reads as it did. -/
def selectionApplySpec : ChangeSpec := { name := "selectionApply", fn := fun _ => fun
  | [d1, d2] => { results := [.lit (.bool true)], args := [d1, d2] }
  | _ => none }
def selectionApplyRow : OpenClaim := { program := "ytijgbhbdmnhanaa", sum := "df41005ee4666816ec2197f80151983039729d017d7d38cc281d2f81642ac302", func := "lamina/laminalaw41.SelectionApply", spec := "selectionApply", unfollowed := true, recurses := true, apart := false }
def SelectionApplySaid : Prop := selectionApplyRow.holds Try.pinned (OpenSpec.ofChange selectionApplySpec)

/-- ITS FALSE NEIGHBOUR: 'it returns false'. Refute it at one input. -/
def selectionApplyWrong : ChangeSpec := { name := "selectionApply", fn := fun _ => fun
  | [d1, d2] => { results := [.lit (.bool false)], args := [d1, d2] }
  | _ => none }
def SelectionApplyWrongFalsely : Prop := selectionApplyRow.holds Try.pinned (OpenSpec.ofChange selectionApplyWrong)

/-- 'laminalaw41.SelectionCompose': WHATEVER THE INPUT: true; the input reads as it did. -/
def selectionComposeSpec : ChangeSpec := { name := "selectionCompose", fn := fun _ => fun
  | [d1, d2, d3] => { results := [.lit (.bool true)], args := [d1, d2, d3] }
  | _ => none }
def selectionComposeRow : OpenClaim := { program := "ytijgbhbdmnhanaa", sum := "df41005ee4666816ec2197f80151983039729d017d7d38cc281d2f81642ac302", func := "lamina/laminalaw41.SelectionCompose", spec := "selectionCompose", unfollowed := true, recurses := true, apart := false }
def SelectionComposeSaid : Prop := selectionComposeRow.holds Try.pinned (OpenSpec.ofChange selectionComposeSpec)

/-- ITS FALSE NEIGHBOUR: 'it returns false'. Refute it at one input. -/
def selectionComposeWrong : ChangeSpec := { name := "selectionCompose", fn := fun _ => fun
  | [d1, d2, d3] => { results := [.lit (.bool false)], args := [d1, d2, d3] }
  | _ => none }
def SelectionComposeWrongFalsely : Prop := selectionComposeRow.holds Try.pinned (OpenSpec.ofChange selectionComposeWrong)

/-- 'laminalaw41.SelectionMade': WHATEVER THE INPUT: true; the input reads as it did. -/
def selectionMadeSpec : ChangeSpec := { name := "selectionMade", fn := fun _ => fun
  | [d1, d2, d3] => { results := [.lit (.bool true)], args := [d1, d2, d3] }
  | _ => none }
def selectionMadeRow : OpenClaim := { program := "ytijgbhbdmnhanaa", sum := "df41005ee4666816ec2197f80151983039729d017d7d38cc281d2f81642ac302", func := "lamina/laminalaw41.SelectionMade", spec := "selectionMade", unfollowed := true, recurses := true, apart := false }
def SelectionMadeSaid : Prop := selectionMadeRow.holds Try.pinned (OpenSpec.ofChange selectionMadeSpec)

/-- ITS FALSE NEIGHBOUR: 'it returns false'. Refute it at one input. -/
def selectionMadeWrong : ChangeSpec := { name := "selectionMade", fn := fun _ => fun
  | [d1, d2, d3] => { results := [.lit (.bool false)], args := [d1, d2, d3] }
  | _ => none }
def SelectionMadeWrongFalsely : Prop := selectionMadeRow.holds Try.pinned (OpenSpec.ofChange selectionMadeWrong)

/- THE SECOND FORM. 'bulk': how many values and letters a reading holds, each counted each time it is reached (what is shared counts as often as it is met; a slice's spare places count too). A statement '..UptoSaid' is the law's where the arguments, and the package variables that the reading takes, are together of bulk at most 1048576: NARROWER than '..Said'. Prove '..Said' where nothing that the law and all that it calls make is longer than what came in: it says more and counts as full. Else prove '..UptoSaid'. A law counts once. -/
mutual
def uptoBulk {H : Type} : DataW H → Nat
  | .lit (.string bytes) => bytes.length + 1
  | .lit _ => 1
  | .nil => 1
  | .ptr d => uptoBulk d + 1
  | .slice elems spare => uptoBulkAll elems + uptoBulkAll spare + 1
  | .agg parts => uptoBulkAll parts + 1
  | .iface _ d => uptoBulk d + 1
  | .map entries => uptoBulkEntries entries + 1
  | .held _ => 1
def uptoBulkAll {H : Type} : List (DataW H) → Nat
  | [] => 0
  | d :: r => uptoBulk d + uptoBulkAll r
def uptoBulkEntries {H : Type} : List (Lit × DataW H) → Nat
  | [] => 0
  | x :: r => uptoBulkEntry x + uptoBulkEntries r
def uptoBulkEntry {H : Type} : Lit × DataW H → Nat
  | (.string bytes, d) => bytes.length + uptoBulk d + 1
  | (_, d) => uptoBulk d + 1
 end
def uptoSmall : (H : Type) → List (DataW H) → Bool := fun _ ds => decide (uptoBulkAll ds ≤ 1048576)
def OpenSpec.upto (s : _root_.Go.ChangeSpec) : _root_.Go.OpenSpec := { _root_.Go.OpenSpec.ofChange s with cond := some uptoSmall }

/-- 'laminalaw41.SelectionSets', WHERE WHAT IT READS IS OF BULK AT MOST 1048576: true; the input reads as it did. -/
def selectionSetsUptoRow : OpenClaim := { program := "ytijgbhbdmnhanaa", sum := "df41005ee4666816ec2197f80151983039729d017d7d38cc281d2f81642ac302", func := "lamina/laminalaw41.SelectionSets", spec := "selectionSets", unfollowed := true, recurses := true, apart := false, narrowed := true }
def SelectionSetsUptoSaid : Prop := selectionSetsUptoRow.holds Try.pinned (OpenSpec.upto selectionSetsSpec)

/-- 'laminalaw41.SelectionApply', WHERE WHAT IT READS IS OF BULK AT MOST 1048576: true; the input reads as it did. -/
def selectionApplyUptoRow : OpenClaim := { program := "ytijgbhbdmnhanaa", sum := "df41005ee4666816ec2197f80151983039729d017d7d38cc281d2f81642ac302", func := "lamina/laminalaw41.SelectionApply", spec := "selectionApply", unfollowed := true, recurses := true, apart := false, narrowed := true }
def SelectionApplyUptoSaid : Prop := selectionApplyUptoRow.holds Try.pinned (OpenSpec.upto selectionApplySpec)

/-- 'laminalaw41.SelectionCompose', WHERE WHAT IT READS IS OF BULK AT MOST 1048576: true; the input reads as it did. -/
def selectionComposeUptoRow : OpenClaim := { program := "ytijgbhbdmnhanaa", sum := "df41005ee4666816ec2197f80151983039729d017d7d38cc281d2f81642ac302", func := "lamina/laminalaw41.SelectionCompose", spec := "selectionCompose", unfollowed := true, recurses := true, apart := false, narrowed := true }
def SelectionComposeUptoSaid : Prop := selectionComposeUptoRow.holds Try.pinned (OpenSpec.upto selectionComposeSpec)

/-- 'laminalaw41.SelectionMade', WHERE WHAT IT READS IS OF BULK AT MOST 1048576: true; the input reads as it did. -/
def selectionMadeUptoRow : OpenClaim := { program := "ytijgbhbdmnhanaa", sum := "df41005ee4666816ec2197f80151983039729d017d7d38cc281d2f81642ac302", func := "lamina/laminalaw41.SelectionMade", spec := "selectionMade", unfollowed := true, recurses := true, apart := false, narrowed := true }
def SelectionMadeUptoSaid : Prop := selectionMadeUptoRow.holds Try.pinned (OpenSpec.upto selectionMadeSpec)

end Rows
end Go.Proofs.Ytijgbhbdmnhanaa
