/-
  NARROWER THAN 'FOR EVERY INPUT', by the rows' own cells (each row's printed sentence says how): SelectionBits: laid · SelectionAlgebra: laid · BitsetValid: laid · BitsetCodec: laid · BitsetRankSelect: laid · BitsetRoundTrip: laid · BitsetElements: laid · BitsetOperations: laid · BitsetAlgebra: laid.
  DERIVED. THE GIVEN ROWS OF THIS SEAT. 9 by the template 'for every input the law returns true; each argument reads behind the call as it read before'; 0 by the template 'total and deterministic' (their statements: YtijgbhbdmnhanaaDoorTotals.lean).
  GIVEN WITH THE SEED: the statements are not yours to turn. If you find one false, say at which input.
  Laid BY PROGRAM, IN A SANDBOX (cutbox-rows.mjs): the forced cells as the released guide's own fill.sh prints them over the translation 05c7a85d673f45ea… (all of the seat's roots in one cut). By AI agents, Wed Nov 11 2026. No macro, syntax, notation, axiom, sorry.
-/
import Derived.Test.YtijgbhbdmnhanaaDoorChecked
import GoSem.Claim
import GoSem.ClaimJoined
import GoSem.ClaimMapViews
import Derived.JoinedTies
import Derived.KernelRfl
namespace Go.Proofs.YtijgbhbdmnhanaaDoor
/- THE CELL 'sum', in the pinned program and in every row, IS THE sha256 OF THE DUMP (.gsa) THAT YtijgbhbdmnhanaaDoorProg.lean LOADS. Nothing in Lean hashes anything: it is a label: what it is worth is what the hold of that sum in a sandbox is worth. -/
noncomputable def Tryd.pinned : Pinned := { name := "ytijgbhbdmnhanaadoor", sum := "05c7a85d673f45ea832dfce5d3b06c953e473131b4067e890f913081242779c0", checked := Tryd.checked }
namespace Rows
def none {H : Type} : Left H := { results := [], args := [] }

/- WHAT THE LISTED PACKAGE-LEVEL VARIABLES READ AS WHEN THE CALL BEGINS. Each datum BY PROGRAM (the guide's laid-datum.mjs) off the statement by which the dump's own 'gosem.cut.vars' lays the variable. In a bare row this is a premise. The card (YtijgbhbdmnhanaaDoorCards.lean) ties it to the program's text. -/
def laid_math_bits_deBruijn64tab {H : Type} : DataW H := .agg [.lit (.int .u8 0), .lit (.int .u8 1), .lit (.int .u8 56), .lit (.int .u8 2), .lit (.int .u8 57), .lit (.int .u8 49), .lit (.int .u8 28), .lit (.int .u8 3), .lit (.int .u8 61), .lit (.int .u8 58), .lit (.int .u8 42), .lit (.int .u8 50), .lit (.int .u8 38), .lit (.int .u8 29), .lit (.int .u8 17), .lit (.int .u8 4), .lit (.int .u8 62), .lit (.int .u8 47), .lit (.int .u8 59), .lit (.int .u8 36), .lit (.int .u8 45), .lit (.int .u8 43), .lit (.int .u8 51), .lit (.int .u8 22), .lit (.int .u8 53), .lit (.int .u8 39), .lit (.int .u8 33), .lit (.int .u8 30), .lit (.int .u8 24), .lit (.int .u8 18), .lit (.int .u8 12), .lit (.int .u8 5), .lit (.int .u8 63), .lit (.int .u8 55), .lit (.int .u8 48), .lit (.int .u8 27), .lit (.int .u8 60), .lit (.int .u8 41), .lit (.int .u8 37), .lit (.int .u8 16), .lit (.int .u8 46), .lit (.int .u8 35), .lit (.int .u8 44), .lit (.int .u8 21), .lit (.int .u8 52), .lit (.int .u8 32), .lit (.int .u8 23), .lit (.int .u8 11), .lit (.int .u8 54), .lit (.int .u8 26), .lit (.int .u8 40), .lit (.int .u8 15), .lit (.int .u8 34), .lit (.int .u8 20), .lit (.int .u8 31), .lit (.int .u8 10), .lit (.int .u8 25), .lit (.int .u8 14), .lit (.int .u8 19), .lit (.int .u8 9), .lit (.int .u8 13), .lit (.int .u8 8), .lit (.int .u8 7), .lit (.int .u8 6)]

/-- 'laminalaw41.SelectionBits': WHATEVER THE INPUT: true; the input reads as it did. -/
def selectionBitsSpec : ChangeSpec := { name := "selectionBits", fn := fun _ => fun
  | [d1, d2, d3] => { results := [.lit (.bool true)], args := [d1, d2, d3] }
  | _ => none }
def selectionBitsRow : OpenClaim := { program := "ytijgbhbdmnhanaadoor", sum := "05c7a85d673f45ea832dfce5d3b06c953e473131b4067e890f913081242779c0", func := "lamina/laminalaw41.SelectionBits", spec := "selectionBits", unfollowed := true, recurses := true, named := ["math/bits.deBruijn64tab"], apart := false, laid := [("math/bits.deBruijn64tab", laid_math_bits_deBruijn64tab)] }
def SelectionBitsSaid : Prop := selectionBitsRow.holds Tryd.pinned (OpenSpec.ofChange selectionBitsSpec)

/-- ITS FALSE NEIGHBOUR: 'it returns false'. Refute it at one input. -/
def selectionBitsWrong : ChangeSpec := { name := "selectionBits", fn := fun _ => fun
  | [d1, d2, d3] => { results := [.lit (.bool false)], args := [d1, d2, d3] }
  | _ => none }
def SelectionBitsWrongFalsely : Prop := selectionBitsRow.holds Tryd.pinned (OpenSpec.ofChange selectionBitsWrong)

/-- 'laminalaw41.SelectionAlgebra': WHATEVER THE INPUT: true; the input reads as it did. -/
def selectionAlgebraSpec : ChangeSpec := { name := "selectionAlgebra", fn := fun _ => fun
  | [d1, d2, d3] => { results := [.lit (.bool true)], args := [d1, d2, d3] }
  | _ => none }
def selectionAlgebraRow : OpenClaim := { program := "ytijgbhbdmnhanaadoor", sum := "05c7a85d673f45ea832dfce5d3b06c953e473131b4067e890f913081242779c0", func := "lamina/laminalaw41.SelectionAlgebra", spec := "selectionAlgebra", unfollowed := true, recurses := true, named := ["math/bits.deBruijn64tab"], apart := false, laid := [("math/bits.deBruijn64tab", laid_math_bits_deBruijn64tab)] }
def SelectionAlgebraSaid : Prop := selectionAlgebraRow.holds Tryd.pinned (OpenSpec.ofChange selectionAlgebraSpec)

/-- ITS FALSE NEIGHBOUR: 'it returns false'. Refute it at one input. -/
def selectionAlgebraWrong : ChangeSpec := { name := "selectionAlgebra", fn := fun _ => fun
  | [d1, d2, d3] => { results := [.lit (.bool false)], args := [d1, d2, d3] }
  | _ => none }
def SelectionAlgebraWrongFalsely : Prop := selectionAlgebraRow.holds Tryd.pinned (OpenSpec.ofChange selectionAlgebraWrong)

/-- 'laminalaw03.BitsetValid': WHATEVER THE INPUT: true; the input reads as it did. -/
def bitsetValidSpec : ChangeSpec := { name := "bitsetValid", fn := fun _ => fun
  | [d] => { results := [.lit (.bool true)], args := [d] }
  | _ => none }
def bitsetValidRow : OpenClaim := { program := "ytijgbhbdmnhanaadoor", sum := "05c7a85d673f45ea832dfce5d3b06c953e473131b4067e890f913081242779c0", func := "lamina/laminalaw03.BitsetValid", spec := "bitsetValid", unfollowed := true, recurses := true, named := ["math/bits.deBruijn64tab"], apart := false, laid := [("math/bits.deBruijn64tab", laid_math_bits_deBruijn64tab)] }
def BitsetValidSaid : Prop := bitsetValidRow.holds Tryd.pinned (OpenSpec.ofChange bitsetValidSpec)

/-- ITS FALSE NEIGHBOUR: 'it returns false'. Refute it at one input. -/
def bitsetValidWrong : ChangeSpec := { name := "bitsetValid", fn := fun _ => fun
  | [d] => { results := [.lit (.bool false)], args := [d] }
  | _ => none }
def BitsetValidWrongFalsely : Prop := bitsetValidRow.holds Tryd.pinned (OpenSpec.ofChange bitsetValidWrong)

/-- 'laminalaw03.BitsetCodec': WHATEVER THE INPUT: true; the input reads as it did. -/
def bitsetCodecSpec : ChangeSpec := { name := "bitsetCodec", fn := fun _ => fun
  | [d1, d2, d3] => { results := [.lit (.bool true)], args := [d1, d2, d3] }
  | _ => none }
def bitsetCodecRow : OpenClaim := { program := "ytijgbhbdmnhanaadoor", sum := "05c7a85d673f45ea832dfce5d3b06c953e473131b4067e890f913081242779c0", func := "lamina/laminalaw03.BitsetCodec", spec := "bitsetCodec", unfollowed := true, recurses := true, named := ["math/bits.deBruijn64tab"], apart := false, laid := [("math/bits.deBruijn64tab", laid_math_bits_deBruijn64tab)] }
def BitsetCodecSaid : Prop := bitsetCodecRow.holds Tryd.pinned (OpenSpec.ofChange bitsetCodecSpec)

/-- ITS FALSE NEIGHBOUR: 'it returns false'. Refute it at one input. -/
def bitsetCodecWrong : ChangeSpec := { name := "bitsetCodec", fn := fun _ => fun
  | [d1, d2, d3] => { results := [.lit (.bool false)], args := [d1, d2, d3] }
  | _ => none }
def BitsetCodecWrongFalsely : Prop := bitsetCodecRow.holds Tryd.pinned (OpenSpec.ofChange bitsetCodecWrong)

/-- 'laminalaw03.BitsetRankSelect': WHATEVER THE INPUT: true; the input reads as it did. -/
def bitsetRankSelectSpec : ChangeSpec := { name := "bitsetRankSelect", fn := fun _ => fun
  | [d1, d2] => { results := [.lit (.bool true)], args := [d1, d2] }
  | _ => none }
def bitsetRankSelectRow : OpenClaim := { program := "ytijgbhbdmnhanaadoor", sum := "05c7a85d673f45ea832dfce5d3b06c953e473131b4067e890f913081242779c0", func := "lamina/laminalaw03.BitsetRankSelect", spec := "bitsetRankSelect", unfollowed := true, recurses := true, named := ["math/bits.deBruijn64tab"], apart := false, laid := [("math/bits.deBruijn64tab", laid_math_bits_deBruijn64tab)] }
def BitsetRankSelectSaid : Prop := bitsetRankSelectRow.holds Tryd.pinned (OpenSpec.ofChange bitsetRankSelectSpec)

/-- ITS FALSE NEIGHBOUR: 'it returns false'. Refute it at one input. -/
def bitsetRankSelectWrong : ChangeSpec := { name := "bitsetRankSelect", fn := fun _ => fun
  | [d1, d2] => { results := [.lit (.bool false)], args := [d1, d2] }
  | _ => none }
def BitsetRankSelectWrongFalsely : Prop := bitsetRankSelectRow.holds Tryd.pinned (OpenSpec.ofChange bitsetRankSelectWrong)

/-- 'laminalaw03.BitsetRoundTrip': WHATEVER THE INPUT: true; the input reads as it did. -/
def bitsetRoundTripSpec : ChangeSpec := { name := "bitsetRoundTrip", fn := fun _ => fun
  | [d1, d2, d3] => { results := [.lit (.bool true)], args := [d1, d2, d3] }
  | _ => none }
def bitsetRoundTripRow : OpenClaim := { program := "ytijgbhbdmnhanaadoor", sum := "05c7a85d673f45ea832dfce5d3b06c953e473131b4067e890f913081242779c0", func := "lamina/laminalaw03.BitsetRoundTrip", spec := "bitsetRoundTrip", unfollowed := true, recurses := true, named := ["math/bits.deBruijn64tab"], apart := false, laid := [("math/bits.deBruijn64tab", laid_math_bits_deBruijn64tab)] }
def BitsetRoundTripSaid : Prop := bitsetRoundTripRow.holds Tryd.pinned (OpenSpec.ofChange bitsetRoundTripSpec)

/-- ITS FALSE NEIGHBOUR: 'it returns false'. Refute it at one input. -/
def bitsetRoundTripWrong : ChangeSpec := { name := "bitsetRoundTrip", fn := fun _ => fun
  | [d1, d2, d3] => { results := [.lit (.bool false)], args := [d1, d2, d3] }
  | _ => none }
def BitsetRoundTripWrongFalsely : Prop := bitsetRoundTripRow.holds Tryd.pinned (OpenSpec.ofChange bitsetRoundTripWrong)

/-- 'laminalaw03.BitsetElements': WHATEVER THE INPUT: true; the input reads as it did. -/
def bitsetElementsSpec : ChangeSpec := { name := "bitsetElements", fn := fun _ => fun
  | [d1, d2, d3, d4] => { results := [.lit (.bool true)], args := [d1, d2, d3, d4] }
  | _ => none }
def bitsetElementsRow : OpenClaim := { program := "ytijgbhbdmnhanaadoor", sum := "05c7a85d673f45ea832dfce5d3b06c953e473131b4067e890f913081242779c0", func := "lamina/laminalaw03.BitsetElements", spec := "bitsetElements", unfollowed := true, recurses := true, named := ["math/bits.deBruijn64tab"], apart := false, laid := [("math/bits.deBruijn64tab", laid_math_bits_deBruijn64tab)] }
def BitsetElementsSaid : Prop := bitsetElementsRow.holds Tryd.pinned (OpenSpec.ofChange bitsetElementsSpec)

/-- ITS FALSE NEIGHBOUR: 'it returns false'. Refute it at one input. -/
def bitsetElementsWrong : ChangeSpec := { name := "bitsetElements", fn := fun _ => fun
  | [d1, d2, d3, d4] => { results := [.lit (.bool false)], args := [d1, d2, d3, d4] }
  | _ => none }
def BitsetElementsWrongFalsely : Prop := bitsetElementsRow.holds Tryd.pinned (OpenSpec.ofChange bitsetElementsWrong)

/-- 'laminalaw03.BitsetOperations': WHATEVER THE INPUT: true; the input reads as it did. -/
def bitsetOperationsSpec : ChangeSpec := { name := "bitsetOperations", fn := fun _ => fun
  | [d1, d2] => { results := [.lit (.bool true)], args := [d1, d2] }
  | _ => none }
def bitsetOperationsRow : OpenClaim := { program := "ytijgbhbdmnhanaadoor", sum := "05c7a85d673f45ea832dfce5d3b06c953e473131b4067e890f913081242779c0", func := "lamina/laminalaw03.BitsetOperations", spec := "bitsetOperations", unfollowed := true, recurses := true, named := ["math/bits.deBruijn64tab"], apart := false, laid := [("math/bits.deBruijn64tab", laid_math_bits_deBruijn64tab)] }
def BitsetOperationsSaid : Prop := bitsetOperationsRow.holds Tryd.pinned (OpenSpec.ofChange bitsetOperationsSpec)

/-- ITS FALSE NEIGHBOUR: 'it returns false'. Refute it at one input. -/
def bitsetOperationsWrong : ChangeSpec := { name := "bitsetOperations", fn := fun _ => fun
  | [d1, d2] => { results := [.lit (.bool false)], args := [d1, d2] }
  | _ => none }
def BitsetOperationsWrongFalsely : Prop := bitsetOperationsRow.holds Tryd.pinned (OpenSpec.ofChange bitsetOperationsWrong)

/-- 'laminalaw03.BitsetAlgebra': WHATEVER THE INPUT: true; the input reads as it did. -/
def bitsetAlgebraSpec : ChangeSpec := { name := "bitsetAlgebra", fn := fun _ => fun
  | [d1, d2] => { results := [.lit (.bool true)], args := [d1, d2] }
  | _ => none }
def bitsetAlgebraRow : OpenClaim := { program := "ytijgbhbdmnhanaadoor", sum := "05c7a85d673f45ea832dfce5d3b06c953e473131b4067e890f913081242779c0", func := "lamina/laminalaw03.BitsetAlgebra", spec := "bitsetAlgebra", unfollowed := true, recurses := true, named := ["math/bits.deBruijn64tab"], apart := false, laid := [("math/bits.deBruijn64tab", laid_math_bits_deBruijn64tab)] }
def BitsetAlgebraSaid : Prop := bitsetAlgebraRow.holds Tryd.pinned (OpenSpec.ofChange bitsetAlgebraSpec)

/-- ITS FALSE NEIGHBOUR: 'it returns false'. Refute it at one input. -/
def bitsetAlgebraWrong : ChangeSpec := { name := "bitsetAlgebra", fn := fun _ => fun
  | [d1, d2] => { results := [.lit (.bool false)], args := [d1, d2] }
  | _ => none }
def BitsetAlgebraWrongFalsely : Prop := bitsetAlgebraRow.holds Tryd.pinned (OpenSpec.ofChange bitsetAlgebraWrong)

/- THE SECOND FORM. 'bulk': how many values and letters a reading holds, each counted each time it is reached (what is shared counts as often as it is met; a slice's spare places count too). A statement '..UptoSaid' is the law's where the arguments, and the package variables that the reading takes, are together of bulk at most 1048576: NARROWER than '..Said'. Prove '..Said' where nothing that the law and all that it calls make is longer than what came in: it says more and counts as full. Else prove '..UptoSaid'. A law counts once. -/
mutual
def uptoBulk {H : Type} : DataW H → Nat
  | .lit (.string bytes) => bytes.length + 1
  | .lit _ => 1
  | .nil => 1
  | .ptr d => uptoBulk d + 1
  | .slice elems spare => uptoBulkAll elems + uptoBulkAll spare + 1
  | .agg parts => uptoBulkAll parts + 1
  | .iface _ d => uptoBulk d + 1
  | .map entries => uptoBulkEntries entries + 1
  | .held _ => 1
def uptoBulkAll {H : Type} : List (DataW H) → Nat
  | [] => 0
  | d :: r => uptoBulk d + uptoBulkAll r
def uptoBulkEntries {H : Type} : List (Lit × DataW H) → Nat
  | [] => 0
  | x :: r => uptoBulkEntry x + uptoBulkEntries r
def uptoBulkEntry {H : Type} : Lit × DataW H → Nat
  | (.string bytes, d) => bytes.length + uptoBulk d + 1
  | (_, d) => uptoBulk d + 1
 end
def uptoSmall : (H : Type) → List (DataW H) → Bool := fun _ ds => decide (uptoBulkAll ds ≤ 1048576)
def OpenSpec.upto (s : _root_.Go.ChangeSpec) : _root_.Go.OpenSpec := { _root_.Go.OpenSpec.ofChange s with cond := some uptoSmall }

/-- 'laminalaw41.SelectionBits', WHERE WHAT IT READS IS OF BULK AT MOST 1048576: true; the input reads as it did. -/
def selectionBitsUptoRow : OpenClaim := { program := "ytijgbhbdmnhanaadoor", sum := "05c7a85d673f45ea832dfce5d3b06c953e473131b4067e890f913081242779c0", func := "lamina/laminalaw41.SelectionBits", spec := "selectionBits", unfollowed := true, recurses := true, named := ["math/bits.deBruijn64tab"], apart := false, laid := [("math/bits.deBruijn64tab", laid_math_bits_deBruijn64tab)], narrowed := true }
def SelectionBitsUptoSaid : Prop := selectionBitsUptoRow.holds Tryd.pinned (OpenSpec.upto selectionBitsSpec)

/-- 'laminalaw41.SelectionAlgebra', WHERE WHAT IT READS IS OF BULK AT MOST 1048576: true; the input reads as it did. -/
def selectionAlgebraUptoRow : OpenClaim := { program := "ytijgbhbdmnhanaadoor", sum := "05c7a85d673f45ea832dfce5d3b06c953e473131b4067e890f913081242779c0", func := "lamina/laminalaw41.SelectionAlgebra", spec := "selectionAlgebra", unfollowed := true, recurses := true, named := ["math/bits.deBruijn64tab"], apart := false, laid := [("math/bits.deBruijn64tab", laid_math_bits_deBruijn64tab)], narrowed := true }
def SelectionAlgebraUptoSaid : Prop := selectionAlgebraUptoRow.holds Tryd.pinned (OpenSpec.upto selectionAlgebraSpec)

/-- 'laminalaw03.BitsetValid', WHERE WHAT IT READS IS OF BULK AT MOST 1048576: true; the input reads as it did. -/
def bitsetValidUptoRow : OpenClaim := { program := "ytijgbhbdmnhanaadoor", sum := "05c7a85d673f45ea832dfce5d3b06c953e473131b4067e890f913081242779c0", func := "lamina/laminalaw03.BitsetValid", spec := "bitsetValid", unfollowed := true, recurses := true, named := ["math/bits.deBruijn64tab"], apart := false, laid := [("math/bits.deBruijn64tab", laid_math_bits_deBruijn64tab)], narrowed := true }
def BitsetValidUptoSaid : Prop := bitsetValidUptoRow.holds Tryd.pinned (OpenSpec.upto bitsetValidSpec)

/-- 'laminalaw03.BitsetCodec', WHERE WHAT IT READS IS OF BULK AT MOST 1048576: true; the input reads as it did. -/
def bitsetCodecUptoRow : OpenClaim := { program := "ytijgbhbdmnhanaadoor", sum := "05c7a85d673f45ea832dfce5d3b06c953e473131b4067e890f913081242779c0", func := "lamina/laminalaw03.BitsetCodec", spec := "bitsetCodec", unfollowed := true, recurses := true, named := ["math/bits.deBruijn64tab"], apart := false, laid := [("math/bits.deBruijn64tab", laid_math_bits_deBruijn64tab)], narrowed := true }
def BitsetCodecUptoSaid : Prop := bitsetCodecUptoRow.holds Tryd.pinned (OpenSpec.upto bitsetCodecSpec)

/-- 'laminalaw03.BitsetRankSelect', WHERE WHAT IT READS IS OF BULK AT MOST 1048576: true; the input reads as it did. -/
def bitsetRankSelectUptoRow : OpenClaim := { program := "ytijgbhbdmnhanaadoor", sum := "05c7a85d673f45ea832dfce5d3b06c953e473131b4067e890f913081242779c0", func := "lamina/laminalaw03.BitsetRankSelect", spec := "bitsetRankSelect", unfollowed := true, recurses := true, named := ["math/bits.deBruijn64tab"], apart := false, laid := [("math/bits.deBruijn64tab", laid_math_bits_deBruijn64tab)], narrowed := true }
def BitsetRankSelectUptoSaid : Prop := bitsetRankSelectUptoRow.holds Tryd.pinned (OpenSpec.upto bitsetRankSelectSpec)

/-- 'laminalaw03.BitsetRoundTrip', WHERE WHAT IT READS IS OF BULK AT MOST 1048576: true; the input reads as it did. -/
def bitsetRoundTripUptoRow : OpenClaim := { program := "ytijgbhbdmnhanaadoor", sum := "05c7a85d673f45ea832dfce5d3b06c953e473131b4067e890f913081242779c0", func := "lamina/laminalaw03.BitsetRoundTrip", spec := "bitsetRoundTrip", unfollowed := true, recurses := true, named := ["math/bits.deBruijn64tab"], apart := false, laid := [("math/bits.deBruijn64tab", laid_math_bits_deBruijn64tab)], narrowed := true }
def BitsetRoundTripUptoSaid : Prop := bitsetRoundTripUptoRow.holds Tryd.pinned (OpenSpec.upto bitsetRoundTripSpec)

/-- 'laminalaw03.BitsetElements', WHERE WHAT IT READS IS OF BULK AT MOST 1048576: true; the input reads as it did. -/
def bitsetElementsUptoRow : OpenClaim := { program := "ytijgbhbdmnhanaadoor", sum := "05c7a85d673f45ea832dfce5d3b06c953e473131b4067e890f913081242779c0", func := "lamina/laminalaw03.BitsetElements", spec := "bitsetElements", unfollowed := true, recurses := true, named := ["math/bits.deBruijn64tab"], apart := false, laid := [("math/bits.deBruijn64tab", laid_math_bits_deBruijn64tab)], narrowed := true }
def BitsetElementsUptoSaid : Prop := bitsetElementsUptoRow.holds Tryd.pinned (OpenSpec.upto bitsetElementsSpec)

/-- 'laminalaw03.BitsetOperations', WHERE WHAT IT READS IS OF BULK AT MOST 1048576: true; the input reads as it did. -/
def bitsetOperationsUptoRow : OpenClaim := { program := "ytijgbhbdmnhanaadoor", sum := "05c7a85d673f45ea832dfce5d3b06c953e473131b4067e890f913081242779c0", func := "lamina/laminalaw03.BitsetOperations", spec := "bitsetOperations", unfollowed := true, recurses := true, named := ["math/bits.deBruijn64tab"], apart := false, laid := [("math/bits.deBruijn64tab", laid_math_bits_deBruijn64tab)], narrowed := true }
def BitsetOperationsUptoSaid : Prop := bitsetOperationsUptoRow.holds Tryd.pinned (OpenSpec.upto bitsetOperationsSpec)

/-- 'laminalaw03.BitsetAlgebra', WHERE WHAT IT READS IS OF BULK AT MOST 1048576: true; the input reads as it did. -/
def bitsetAlgebraUptoRow : OpenClaim := { program := "ytijgbhbdmnhanaadoor", sum := "05c7a85d673f45ea832dfce5d3b06c953e473131b4067e890f913081242779c0", func := "lamina/laminalaw03.BitsetAlgebra", spec := "bitsetAlgebra", unfollowed := true, recurses := true, named := ["math/bits.deBruijn64tab"], apart := false, laid := [("math/bits.deBruijn64tab", laid_math_bits_deBruijn64tab)], narrowed := true }
def BitsetAlgebraUptoSaid : Prop := bitsetAlgebraUptoRow.holds Tryd.pinned (OpenSpec.upto bitsetAlgebraSpec)

end Rows
end Go.Proofs.YtijgbhbdmnhanaaDoor
