/-
  No cell of these rows narrows 'for every input' (looked for: loops, veiled, ifaces, maps, wideKeys, modest, calm, conditions, laid).
  DERIVED. THE GIVEN ROWS OF THIS SEAT. 6 by the template 'for every input the law returns true; each argument reads behind the call as it read before'; 0 by the template 'total and deterministic' (their statements: YtfonjlolliiaeaaTotals.lean).
  GIVEN WITH THE SEED: the statements are not yours to turn. If you find one false, say at which input.
  Laid BY PROGRAM, IN A SANDBOX (cutbox-rows.mjs): the forced cells as the released guide's own fill.sh prints them over the translation ad28843c5553a87b… (all of the seat's roots in one cut). By AI agents, Wed Nov 11 2026. No macro, syntax, notation, axiom, sorry.
-/
import Derived.Test.YtfonjlolliiaeaaChecked
import GoSem.Claim
import GoSem.ClaimJoined
import GoSem.ClaimMapViews
import Derived.JoinedTies
import Derived.KernelRfl
namespace Go.Proofs.Ytfonjlolliiaeaa
/- THE CELL 'sum', in the pinned program and in every row, IS THE sha256 OF THE DUMP (.gsa) THAT YtfonjlolliiaeaaProg.lean LOADS. Nothing in Lean hashes anything: it is a label: what it is worth is what the hold of that sum in a sandbox is worth. -/
noncomputable def Try.pinned : Pinned := { name := "ytfonjlolliiaeaa", sum := "ad28843c5553a87b5ae7ba3c28055a8c30285d55031ce681f9701afbb3250b46", checked := Try.checked }
namespace Rows
def none {H : Type} : Left H := { results := [], args := [] }

/-- 'laminalaw02.ChecksumOpen': WHATEVER THE INPUT: true; the input reads as it did. -/
def checksumOpenSpec : ChangeSpec := { name := "checksumOpen", fn := fun _ => fun
  | [d] => { results := [.lit (.bool true)], args := [d] }
  | _ => none }
def checksumOpenRow : OpenClaim := { program := "ytfonjlolliiaeaa", sum := "ad28843c5553a87b5ae7ba3c28055a8c30285d55031ce681f9701afbb3250b46", func := "lamina/laminalaw02.ChecksumOpen", spec := "checksumOpen", apart := false }
def ChecksumOpenSaid : Prop := checksumOpenRow.holds Try.pinned (OpenSpec.ofChange checksumOpenSpec)

/-- ITS FALSE NEIGHBOUR: 'it returns false'. Refute it at one input. -/
def checksumOpenWrong : ChangeSpec := { name := "checksumOpen", fn := fun _ => fun
  | [d] => { results := [.lit (.bool false)], args := [d] }
  | _ => none }
def ChecksumOpenWrongFalsely : Prop := checksumOpenRow.holds Try.pinned (OpenSpec.ofChange checksumOpenWrong)

/-- 'laminalaw02.ChecksumHash': WHATEVER THE INPUT: true; the input reads as it did. -/
def checksumHashSpec : ChangeSpec := { name := "checksumHash", fn := fun _ => fun
  | [d1, d2] => { results := [.lit (.bool true)], args := [d1, d2] }
  | _ => none }
def checksumHashRow : OpenClaim := { program := "ytfonjlolliiaeaa", sum := "ad28843c5553a87b5ae7ba3c28055a8c30285d55031ce681f9701afbb3250b46", func := "lamina/laminalaw02.ChecksumHash", spec := "checksumHash", apart := false }
def ChecksumHashSaid : Prop := checksumHashRow.holds Try.pinned (OpenSpec.ofChange checksumHashSpec)

/-- ITS FALSE NEIGHBOUR: 'it returns false'. Refute it at one input. -/
def checksumHashWrong : ChangeSpec := { name := "checksumHash", fn := fun _ => fun
  | [d1, d2] => { results := [.lit (.bool false)], args := [d1, d2] }
  | _ => none }
def ChecksumHashWrongFalsely : Prop := checksumHashRow.holds Try.pinned (OpenSpec.ofChange checksumHashWrong)

/-- 'laminalaw02.ChecksumBursts': WHATEVER THE INPUT: true; the input reads as it did. -/
def checksumBurstsSpec : ChangeSpec := { name := "checksumBursts", fn := fun _ => fun
  | [d1, d2, d3] => { results := [.lit (.bool true)], args := [d1, d2, d3] }
  | _ => none }
def checksumBurstsRow : OpenClaim := { program := "ytfonjlolliiaeaa", sum := "ad28843c5553a87b5ae7ba3c28055a8c30285d55031ce681f9701afbb3250b46", func := "lamina/laminalaw02.ChecksumBursts", spec := "checksumBursts", apart := false }
def ChecksumBurstsSaid : Prop := checksumBurstsRow.holds Try.pinned (OpenSpec.ofChange checksumBurstsSpec)

/-- ITS FALSE NEIGHBOUR: 'it returns false'. Refute it at one input. -/
def checksumBurstsWrong : ChangeSpec := { name := "checksumBursts", fn := fun _ => fun
  | [d1, d2, d3] => { results := [.lit (.bool false)], args := [d1, d2, d3] }
  | _ => none }
def ChecksumBurstsWrongFalsely : Prop := checksumBurstsRow.holds Try.pinned (OpenSpec.ofChange checksumBurstsWrong)

/-- 'laminalaw02.ChecksumCRC': WHATEVER THE INPUT: true; the input reads as it did. -/
def checksumCRCSpec : ChangeSpec := { name := "checksumCRC", fn := fun _ => fun
  | [d1, d2, d3] => { results := [.lit (.bool true)], args := [d1, d2, d3] }
  | _ => none }
def checksumCRCRow : OpenClaim := { program := "ytfonjlolliiaeaa", sum := "ad28843c5553a87b5ae7ba3c28055a8c30285d55031ce681f9701afbb3250b46", func := "lamina/laminalaw02.ChecksumCRC", spec := "checksumCRC", apart := false }
def ChecksumCRCSaid : Prop := checksumCRCRow.holds Try.pinned (OpenSpec.ofChange checksumCRCSpec)

/-- ITS FALSE NEIGHBOUR: 'it returns false'. Refute it at one input. -/
def checksumCRCWrong : ChangeSpec := { name := "checksumCRC", fn := fun _ => fun
  | [d1, d2, d3] => { results := [.lit (.bool false)], args := [d1, d2, d3] }
  | _ => none }
def ChecksumCRCWrongFalsely : Prop := checksumCRCRow.holds Try.pinned (OpenSpec.ofChange checksumCRCWrong)

/-- 'laminalaw02.ChecksumParts': WHATEVER THE INPUT: true; the input reads as it did. -/
def checksumPartsSpec : ChangeSpec := { name := "checksumParts", fn := fun _ => fun
  | [d1, d2, d3] => { results := [.lit (.bool true)], args := [d1, d2, d3] }
  | _ => none }
def checksumPartsRow : OpenClaim := { program := "ytfonjlolliiaeaa", sum := "ad28843c5553a87b5ae7ba3c28055a8c30285d55031ce681f9701afbb3250b46", func := "lamina/laminalaw02.ChecksumParts", spec := "checksumParts", apart := false }
def ChecksumPartsSaid : Prop := checksumPartsRow.holds Try.pinned (OpenSpec.ofChange checksumPartsSpec)

/-- ITS FALSE NEIGHBOUR: 'it returns false'. Refute it at one input. -/
def checksumPartsWrong : ChangeSpec := { name := "checksumParts", fn := fun _ => fun
  | [d1, d2, d3] => { results := [.lit (.bool false)], args := [d1, d2, d3] }
  | _ => none }
def ChecksumPartsWrongFalsely : Prop := checksumPartsRow.holds Try.pinned (OpenSpec.ofChange checksumPartsWrong)

/-- 'laminalaw02.ChecksumMix': WHATEVER THE INPUT: true; the input reads as it did. -/
def checksumMixSpec : ChangeSpec := { name := "checksumMix", fn := fun _ => fun
  | [d] => { results := [.lit (.bool true)], args := [d] }
  | _ => none }
def checksumMixRow : OpenClaim := { program := "ytfonjlolliiaeaa", sum := "ad28843c5553a87b5ae7ba3c28055a8c30285d55031ce681f9701afbb3250b46", func := "lamina/laminalaw02.ChecksumMix", spec := "checksumMix", apart := false }
def ChecksumMixSaid : Prop := checksumMixRow.holds Try.pinned (OpenSpec.ofChange checksumMixSpec)

/-- ITS FALSE NEIGHBOUR: 'it returns false'. Refute it at one input. -/
def checksumMixWrong : ChangeSpec := { name := "checksumMix", fn := fun _ => fun
  | [d] => { results := [.lit (.bool false)], args := [d] }
  | _ => none }
def ChecksumMixWrongFalsely : Prop := checksumMixRow.holds Try.pinned (OpenSpec.ofChange checksumMixWrong)

/- THE SECOND FORM. 'bulk': how many values and letters a reading holds, each counted each time it is reached (what is shared counts as often as it is met; a slice's spare places count too). A statement '..UptoSaid' is the law's where the arguments, and the package variables that the reading takes, are together of bulk at most 1048576: NARROWER than '..Said'. Prove '..Said' where nothing that the law and all that it calls make is longer than what came in: it says more and counts as full. Else prove '..UptoSaid'. A law counts once. -/
mutual
def uptoBulk {H : Type} : DataW H → Nat
  | .lit (.string bytes) => bytes.length + 1
  | .lit _ => 1
  | .nil => 1
  | .ptr d => uptoBulk d + 1
  | .slice elems spare => uptoBulkAll elems + uptoBulkAll spare + 1
  | .agg parts => uptoBulkAll parts + 1
  | .iface _ d => uptoBulk d + 1
  | .map entries => uptoBulkEntries entries + 1
  | .held _ => 1
def uptoBulkAll {H : Type} : List (DataW H) → Nat
  | [] => 0
  | d :: r => uptoBulk d + uptoBulkAll r
def uptoBulkEntries {H : Type} : List (Lit × DataW H) → Nat
  | [] => 0
  | x :: r => uptoBulkEntry x + uptoBulkEntries r
def uptoBulkEntry {H : Type} : Lit × DataW H → Nat
  | (.string bytes, d) => bytes.length + uptoBulk d + 1
  | (_, d) => uptoBulk d + 1
 end
def uptoSmall : (H : Type) → List (DataW H) → Bool := fun _ ds => decide (uptoBulkAll ds ≤ 1048576)
def OpenSpec.upto (s : _root_.Go.ChangeSpec) : _root_.Go.OpenSpec := { _root_.Go.OpenSpec.ofChange s with cond := some uptoSmall }

/-- 'laminalaw02.ChecksumOpen', WHERE WHAT IT READS IS OF BULK AT MOST 1048576: true; the input reads as it did. -/
def checksumOpenUptoRow : OpenClaim := { program := "ytfonjlolliiaeaa", sum := "ad28843c5553a87b5ae7ba3c28055a8c30285d55031ce681f9701afbb3250b46", func := "lamina/laminalaw02.ChecksumOpen", spec := "checksumOpen", apart := false, narrowed := true }
def ChecksumOpenUptoSaid : Prop := checksumOpenUptoRow.holds Try.pinned (OpenSpec.upto checksumOpenSpec)

/-- 'laminalaw02.ChecksumHash', WHERE WHAT IT READS IS OF BULK AT MOST 1048576: true; the input reads as it did. -/
def checksumHashUptoRow : OpenClaim := { program := "ytfonjlolliiaeaa", sum := "ad28843c5553a87b5ae7ba3c28055a8c30285d55031ce681f9701afbb3250b46", func := "lamina/laminalaw02.ChecksumHash", spec := "checksumHash", apart := false, narrowed := true }
def ChecksumHashUptoSaid : Prop := checksumHashUptoRow.holds Try.pinned (OpenSpec.upto checksumHashSpec)

/-- 'laminalaw02.ChecksumBursts', WHERE WHAT IT READS IS OF BULK AT MOST 1048576: true; the input reads as it did. -/
def checksumBurstsUptoRow : OpenClaim := { program := "ytfonjlolliiaeaa", sum := "ad28843c5553a87b5ae7ba3c28055a8c30285d55031ce681f9701afbb3250b46", func := "lamina/laminalaw02.ChecksumBursts", spec := "checksumBursts", apart := false, narrowed := true }
def ChecksumBurstsUptoSaid : Prop := checksumBurstsUptoRow.holds Try.pinned (OpenSpec.upto checksumBurstsSpec)

/-- 'laminalaw02.ChecksumCRC', WHERE WHAT IT READS IS OF BULK AT MOST 1048576: true; the input reads as it did. -/
def checksumCRCUptoRow : OpenClaim := { program := "ytfonjlolliiaeaa", sum := "ad28843c5553a87b5ae7ba3c28055a8c30285d55031ce681f9701afbb3250b46", func := "lamina/laminalaw02.ChecksumCRC", spec := "checksumCRC", apart := false, narrowed := true }
def ChecksumCRCUptoSaid : Prop := checksumCRCUptoRow.holds Try.pinned (OpenSpec.upto checksumCRCSpec)

/-- 'laminalaw02.ChecksumParts', WHERE WHAT IT READS IS OF BULK AT MOST 1048576: true; the input reads as it did. -/
def checksumPartsUptoRow : OpenClaim := { program := "ytfonjlolliiaeaa", sum := "ad28843c5553a87b5ae7ba3c28055a8c30285d55031ce681f9701afbb3250b46", func := "lamina/laminalaw02.ChecksumParts", spec := "checksumParts", apart := false, narrowed := true }
def ChecksumPartsUptoSaid : Prop := checksumPartsUptoRow.holds Try.pinned (OpenSpec.upto checksumPartsSpec)

/-- 'laminalaw02.ChecksumMix', WHERE WHAT IT READS IS OF BULK AT MOST 1048576: true; the input reads as it did. -/
def checksumMixUptoRow : OpenClaim := { program := "ytfonjlolliiaeaa", sum := "ad28843c5553a87b5ae7ba3c28055a8c30285d55031ce681f9701afbb3250b46", func := "lamina/laminalaw02.ChecksumMix", spec := "checksumMix", apart := false, narrowed := true }
def ChecksumMixUptoSaid : Prop := checksumMixUptoRow.holds Try.pinned (OpenSpec.upto checksumMixSpec)

end Rows
end Go.Proofs.Ytfonjlolliiaeaa
