/-
  No cell of these rows narrows 'for every input' (looked for: loops, veiled, ifaces, maps, wideKeys, modest, calm, conditions, laid).
  DERIVED. THE GIVEN ROWS OF THIS SEAT. 15 by the template 'for every input the law returns true; each argument reads behind the call as it read before'; 0 by the template 'total and deterministic' (their statements: YtllhbjkkoogeeaaTotals.lean).
  GIVEN WITH THE SEED: the statements are not yours to turn. If you find one false, say at which input.
  Laid BY PROGRAM, IN A SANDBOX (cutbox-rows.mjs): the forced cells as the released guide's own fill.sh prints them over the translation 353572726e0f7bae… (all of the seat's roots in one cut). By AI agents, Wed Nov 11 2026. No macro, syntax, notation, axiom, sorry.
-/
import Derived.Test.YtllhbjkkoogeeaaChecked
import GoSem.Claim
import GoSem.ClaimJoined
import GoSem.ClaimMapViews
import Derived.JoinedTies
import Derived.KernelRfl
namespace Go.Proofs.Ytllhbjkkoogeeaa
/- THE CELL 'sum', in the pinned program and in every row, IS THE sha256 OF THE DUMP (.gsa) THAT YtllhbjkkoogeeaaProg.lean LOADS. Nothing in Lean hashes anything: it is a label: what it is worth is what the hold of that sum in a sandbox is worth. -/
noncomputable def Try.pinned : Pinned := { name := "ytllhbjkkoogeeaa", sum := "353572726e0f7baeb5c94e75406587149f04cead1e190d80692827c659ee9ac7", checked := Try.checked }
namespace Rows
def none {H : Type} : Left H := { results := [], args := [] }

/-- 'laminalaw06.BitpackPack': WHATEVER THE INPUT: true; the input reads as it did. -/
def bitpackPackSpec : ChangeSpec := { name := "bitpackPack", fn := fun _ => fun
  | [d1, d2, d3] => { results := [.lit (.bool true)], args := [d1, d2, d3] }
  | _ => none }
def bitpackPackRow : OpenClaim := { program := "ytllhbjkkoogeeaa", sum := "353572726e0f7baeb5c94e75406587149f04cead1e190d80692827c659ee9ac7", func := "lamina/laminalaw06.BitpackPack", spec := "bitpackPack", unfollowed := true, recurses := true, apart := false }
def BitpackPackSaid : Prop := bitpackPackRow.holds Try.pinned (OpenSpec.ofChange bitpackPackSpec)

/-- ITS FALSE NEIGHBOUR: 'it returns false'. Refute it at one input. -/
def bitpackPackWrong : ChangeSpec := { name := "bitpackPack", fn := fun _ => fun
  | [d1, d2, d3] => { results := [.lit (.bool false)], args := [d1, d2, d3] }
  | _ => none }
def BitpackPackWrongFalsely : Prop := bitpackPackRow.holds Try.pinned (OpenSpec.ofChange bitpackPackWrong)

/-- 'laminalaw06.BitpackUnpack': WHATEVER THE INPUT: true; the input reads as it did. -/
def bitpackUnpackSpec : ChangeSpec := { name := "bitpackUnpack", fn := fun _ => fun
  | [d1, d2, d3, d4] => { results := [.lit (.bool true)], args := [d1, d2, d3, d4] }
  | _ => none }
def bitpackUnpackRow : OpenClaim := { program := "ytllhbjkkoogeeaa", sum := "353572726e0f7baeb5c94e75406587149f04cead1e190d80692827c659ee9ac7", func := "lamina/laminalaw06.BitpackUnpack", spec := "bitpackUnpack", unfollowed := true, recurses := true, apart := false }
def BitpackUnpackSaid : Prop := bitpackUnpackRow.holds Try.pinned (OpenSpec.ofChange bitpackUnpackSpec)

/-- ITS FALSE NEIGHBOUR: 'it returns false'. Refute it at one input. -/
def bitpackUnpackWrong : ChangeSpec := { name := "bitpackUnpack", fn := fun _ => fun
  | [d1, d2, d3, d4] => { results := [.lit (.bool false)], args := [d1, d2, d3, d4] }
  | _ => none }
def BitpackUnpackWrongFalsely : Prop := bitpackUnpackRow.holds Try.pinned (OpenSpec.ofChange bitpackUnpackWrong)

/-- 'laminalaw09.DeltaRoundTrip': WHATEVER THE INPUT: true; the input reads as it did. -/
def deltaRoundTripSpec : ChangeSpec := { name := "deltaRoundTrip", fn := fun _ => fun
  | [d1, d2, d3] => { results := [.lit (.bool true)], args := [d1, d2, d3] }
  | _ => none }
def deltaRoundTripRow : OpenClaim := { program := "ytllhbjkkoogeeaa", sum := "353572726e0f7baeb5c94e75406587149f04cead1e190d80692827c659ee9ac7", func := "lamina/laminalaw09.DeltaRoundTrip", spec := "deltaRoundTrip", unfollowed := true, recurses := true, apart := false }
def DeltaRoundTripSaid : Prop := deltaRoundTripRow.holds Try.pinned (OpenSpec.ofChange deltaRoundTripSpec)

/-- ITS FALSE NEIGHBOUR: 'it returns false'. Refute it at one input. -/
def deltaRoundTripWrong : ChangeSpec := { name := "deltaRoundTrip", fn := fun _ => fun
  | [d1, d2, d3] => { results := [.lit (.bool false)], args := [d1, d2, d3] }
  | _ => none }
def DeltaRoundTripWrongFalsely : Prop := deltaRoundTripRow.holds Try.pinned (OpenSpec.ofChange deltaRoundTripWrong)

/-- 'laminalaw06.BitpackRoundTrip': WHATEVER THE INPUT: true; the input reads as it did. -/
def bitpackRoundTripSpec : ChangeSpec := { name := "bitpackRoundTrip", fn := fun _ => fun
  | [d1, d2] => { results := [.lit (.bool true)], args := [d1, d2] }
  | _ => none }
def bitpackRoundTripRow : OpenClaim := { program := "ytllhbjkkoogeeaa", sum := "353572726e0f7baeb5c94e75406587149f04cead1e190d80692827c659ee9ac7", func := "lamina/laminalaw06.BitpackRoundTrip", spec := "bitpackRoundTrip", unfollowed := true, recurses := true, apart := false }
def BitpackRoundTripSaid : Prop := bitpackRoundTripRow.holds Try.pinned (OpenSpec.ofChange bitpackRoundTripSpec)

/-- ITS FALSE NEIGHBOUR: 'it returns false'. Refute it at one input. -/
def bitpackRoundTripWrong : ChangeSpec := { name := "bitpackRoundTrip", fn := fun _ => fun
  | [d1, d2] => { results := [.lit (.bool false)], args := [d1, d2] }
  | _ => none }
def BitpackRoundTripWrongFalsely : Prop := bitpackRoundTripRow.holds Try.pinned (OpenSpec.ofChange bitpackRoundTripWrong)

/-- 'laminalaw06.BitpackTruncates': WHATEVER THE INPUT: true; the input reads as it did. -/
def bitpackTruncatesSpec : ChangeSpec := { name := "bitpackTruncates", fn := fun _ => fun
  | [d1, d2] => { results := [.lit (.bool true)], args := [d1, d2] }
  | _ => none }
def bitpackTruncatesRow : OpenClaim := { program := "ytllhbjkkoogeeaa", sum := "353572726e0f7baeb5c94e75406587149f04cead1e190d80692827c659ee9ac7", func := "lamina/laminalaw06.BitpackTruncates", spec := "bitpackTruncates", unfollowed := true, recurses := true, apart := false }
def BitpackTruncatesSaid : Prop := bitpackTruncatesRow.holds Try.pinned (OpenSpec.ofChange bitpackTruncatesSpec)

/-- ITS FALSE NEIGHBOUR: 'it returns false'. Refute it at one input. -/
def bitpackTruncatesWrong : ChangeSpec := { name := "bitpackTruncates", fn := fun _ => fun
  | [d1, d2] => { results := [.lit (.bool false)], args := [d1, d2] }
  | _ => none }
def BitpackTruncatesWrongFalsely : Prop := bitpackTruncatesRow.holds Try.pinned (OpenSpec.ofChange bitpackTruncatesWrong)

/-- 'laminalaw06.BitpackCanonical': WHATEVER THE INPUT: true; the input reads as it did. -/
def bitpackCanonicalSpec : ChangeSpec := { name := "bitpackCanonical", fn := fun _ => fun
  | [d1, d2, d3] => { results := [.lit (.bool true)], args := [d1, d2, d3] }
  | _ => none }
def bitpackCanonicalRow : OpenClaim := { program := "ytllhbjkkoogeeaa", sum := "353572726e0f7baeb5c94e75406587149f04cead1e190d80692827c659ee9ac7", func := "lamina/laminalaw06.BitpackCanonical", spec := "bitpackCanonical", unfollowed := true, recurses := true, apart := false }
def BitpackCanonicalSaid : Prop := bitpackCanonicalRow.holds Try.pinned (OpenSpec.ofChange bitpackCanonicalSpec)

/-- ITS FALSE NEIGHBOUR: 'it returns false'. Refute it at one input. -/
def bitpackCanonicalWrong : ChangeSpec := { name := "bitpackCanonical", fn := fun _ => fun
  | [d1, d2, d3] => { results := [.lit (.bool false)], args := [d1, d2, d3] }
  | _ => none }
def BitpackCanonicalWrongFalsely : Prop := bitpackCanonicalRow.holds Try.pinned (OpenSpec.ofChange bitpackCanonicalWrong)

/-- 'laminalaw09.DeltaLinear': WHATEVER THE INPUT: true; the input reads as it did. -/
def deltaLinearSpec : ChangeSpec := { name := "deltaLinear", fn := fun _ => fun
  | [d1, d2, d3] => { results := [.lit (.bool true)], args := [d1, d2, d3] }
  | _ => none }
def deltaLinearRow : OpenClaim := { program := "ytllhbjkkoogeeaa", sum := "353572726e0f7baeb5c94e75406587149f04cead1e190d80692827c659ee9ac7", func := "lamina/laminalaw09.DeltaLinear", spec := "deltaLinear", unfollowed := true, recurses := true, apart := false }
def DeltaLinearSaid : Prop := deltaLinearRow.holds Try.pinned (OpenSpec.ofChange deltaLinearSpec)

/-- ITS FALSE NEIGHBOUR: 'it returns false'. Refute it at one input. -/
def deltaLinearWrong : ChangeSpec := { name := "deltaLinear", fn := fun _ => fun
  | [d1, d2, d3] => { results := [.lit (.bool false)], args := [d1, d2, d3] }
  | _ => none }
def DeltaLinearWrongFalsely : Prop := deltaLinearRow.holds Try.pinned (OpenSpec.ofChange deltaLinearWrong)

/-- 'laminalaw08.FramerefDecode': WHATEVER THE INPUT: true; the input reads as it did. -/
def framerefDecodeSpec : ChangeSpec := { name := "framerefDecode", fn := fun _ => fun
  | [d1, d2, d3] => { results := [.lit (.bool true)], args := [d1, d2, d3] }
  | _ => none }
def framerefDecodeRow : OpenClaim := { program := "ytllhbjkkoogeeaa", sum := "353572726e0f7baeb5c94e75406587149f04cead1e190d80692827c659ee9ac7", func := "lamina/laminalaw08.FramerefDecode", spec := "framerefDecode", unfollowed := true, recurses := true, apart := false }
def FramerefDecodeSaid : Prop := framerefDecodeRow.holds Try.pinned (OpenSpec.ofChange framerefDecodeSpec)

/-- ITS FALSE NEIGHBOUR: 'it returns false'. Refute it at one input. -/
def framerefDecodeWrong : ChangeSpec := { name := "framerefDecode", fn := fun _ => fun
  | [d1, d2, d3] => { results := [.lit (.bool false)], args := [d1, d2, d3] }
  | _ => none }
def FramerefDecodeWrongFalsely : Prop := framerefDecodeRow.holds Try.pinned (OpenSpec.ofChange framerefDecodeWrong)

/-- 'laminalaw08.FramerefEncode': WHATEVER THE INPUT: true; the input reads as it did. -/
def framerefEncodeSpec : ChangeSpec := { name := "framerefEncode", fn := fun _ => fun
  | [d] => { results := [.lit (.bool true)], args := [d] }
  | _ => none }
def framerefEncodeRow : OpenClaim := { program := "ytllhbjkkoogeeaa", sum := "353572726e0f7baeb5c94e75406587149f04cead1e190d80692827c659ee9ac7", func := "lamina/laminalaw08.FramerefEncode", spec := "framerefEncode", unfollowed := true, recurses := true, apart := false }
def FramerefEncodeSaid : Prop := framerefEncodeRow.holds Try.pinned (OpenSpec.ofChange framerefEncodeSpec)

/-- ITS FALSE NEIGHBOUR: 'it returns false'. Refute it at one input. -/
def framerefEncodeWrong : ChangeSpec := { name := "framerefEncode", fn := fun _ => fun
  | [d] => { results := [.lit (.bool false)], args := [d] }
  | _ => none }
def FramerefEncodeWrongFalsely : Prop := framerefEncodeRow.holds Try.pinned (OpenSpec.ofChange framerefEncodeWrong)

/-- 'laminalaw08.FramerefRoundTrip': WHATEVER THE INPUT: true; the input reads as it did. -/
def framerefRoundTripSpec : ChangeSpec := { name := "framerefRoundTrip", fn := fun _ => fun
  | [d1, d2, d3] => { results := [.lit (.bool true)], args := [d1, d2, d3] }
  | _ => none }
def framerefRoundTripRow : OpenClaim := { program := "ytllhbjkkoogeeaa", sum := "353572726e0f7baeb5c94e75406587149f04cead1e190d80692827c659ee9ac7", func := "lamina/laminalaw08.FramerefRoundTrip", spec := "framerefRoundTrip", unfollowed := true, recurses := true, apart := false }
def FramerefRoundTripSaid : Prop := framerefRoundTripRow.holds Try.pinned (OpenSpec.ofChange framerefRoundTripSpec)

/-- ITS FALSE NEIGHBOUR: 'it returns false'. Refute it at one input. -/
def framerefRoundTripWrong : ChangeSpec := { name := "framerefRoundTrip", fn := fun _ => fun
  | [d1, d2, d3] => { results := [.lit (.bool false)], args := [d1, d2, d3] }
  | _ => none }
def FramerefRoundTripWrongFalsely : Prop := framerefRoundTripRow.holds Try.pinned (OpenSpec.ofChange framerefRoundTripWrong)

/-- 'laminalaw08.FramerefShortest': WHATEVER THE INPUT: true; the input reads as it did. -/
def framerefShortestSpec : ChangeSpec := { name := "framerefShortest", fn := fun _ => fun
  | [d1, d2, d3] => { results := [.lit (.bool true)], args := [d1, d2, d3] }
  | _ => none }
def framerefShortestRow : OpenClaim := { program := "ytllhbjkkoogeeaa", sum := "353572726e0f7baeb5c94e75406587149f04cead1e190d80692827c659ee9ac7", func := "lamina/laminalaw08.FramerefShortest", spec := "framerefShortest", unfollowed := true, recurses := true, apart := false }
def FramerefShortestSaid : Prop := framerefShortestRow.holds Try.pinned (OpenSpec.ofChange framerefShortestSpec)

/-- ITS FALSE NEIGHBOUR: 'it returns false'. Refute it at one input. -/
def framerefShortestWrong : ChangeSpec := { name := "framerefShortest", fn := fun _ => fun
  | [d1, d2, d3] => { results := [.lit (.bool false)], args := [d1, d2, d3] }
  | _ => none }
def FramerefShortestWrongFalsely : Prop := framerefShortestRow.holds Try.pinned (OpenSpec.ofChange framerefShortestWrong)

/-- 'laminalaw08.FramerefAt': WHATEVER THE INPUT: true; the input reads as it did. -/
def framerefAtSpec : ChangeSpec := { name := "framerefAt", fn := fun _ => fun
  | [d1, d2, d3, d4] => { results := [.lit (.bool true)], args := [d1, d2, d3, d4] }
  | _ => none }
def framerefAtRow : OpenClaim := { program := "ytllhbjkkoogeeaa", sum := "353572726e0f7baeb5c94e75406587149f04cead1e190d80692827c659ee9ac7", func := "lamina/laminalaw08.FramerefAt", spec := "framerefAt", unfollowed := true, recurses := true, apart := false }
def FramerefAtSaid : Prop := framerefAtRow.holds Try.pinned (OpenSpec.ofChange framerefAtSpec)

/-- ITS FALSE NEIGHBOUR: 'it returns false'. Refute it at one input. -/
def framerefAtWrong : ChangeSpec := { name := "framerefAt", fn := fun _ => fun
  | [d1, d2, d3, d4] => { results := [.lit (.bool false)], args := [d1, d2, d3, d4] }
  | _ => none }
def FramerefAtWrongFalsely : Prop := framerefAtRow.holds Try.pinned (OpenSpec.ofChange framerefAtWrong)

/-- 'laminalaw09.DeltaEncode': WHATEVER THE INPUT: true; the input reads as it did. -/
def deltaEncodeSpec : ChangeSpec := { name := "deltaEncode", fn := fun _ => fun
  | [d1, d2] => { results := [.lit (.bool true)], args := [d1, d2] }
  | _ => none }
def deltaEncodeRow : OpenClaim := { program := "ytllhbjkkoogeeaa", sum := "353572726e0f7baeb5c94e75406587149f04cead1e190d80692827c659ee9ac7", func := "lamina/laminalaw09.DeltaEncode", spec := "deltaEncode", unfollowed := true, recurses := true, apart := false }
def DeltaEncodeSaid : Prop := deltaEncodeRow.holds Try.pinned (OpenSpec.ofChange deltaEncodeSpec)

/-- ITS FALSE NEIGHBOUR: 'it returns false'. Refute it at one input. -/
def deltaEncodeWrong : ChangeSpec := { name := "deltaEncode", fn := fun _ => fun
  | [d1, d2] => { results := [.lit (.bool false)], args := [d1, d2] }
  | _ => none }
def DeltaEncodeWrongFalsely : Prop := deltaEncodeRow.holds Try.pinned (OpenSpec.ofChange deltaEncodeWrong)

/-- 'laminalaw09.DeltaDecode': WHATEVER THE INPUT: true; the input reads as it did. -/
def deltaDecodeSpec : ChangeSpec := { name := "deltaDecode", fn := fun _ => fun
  | [d1, d2, d3] => { results := [.lit (.bool true)], args := [d1, d2, d3] }
  | _ => none }
def deltaDecodeRow : OpenClaim := { program := "ytllhbjkkoogeeaa", sum := "353572726e0f7baeb5c94e75406587149f04cead1e190d80692827c659ee9ac7", func := "lamina/laminalaw09.DeltaDecode", spec := "deltaDecode", unfollowed := true, recurses := true, apart := false }
def DeltaDecodeSaid : Prop := deltaDecodeRow.holds Try.pinned (OpenSpec.ofChange deltaDecodeSpec)

/-- ITS FALSE NEIGHBOUR: 'it returns false'. Refute it at one input. -/
def deltaDecodeWrong : ChangeSpec := { name := "deltaDecode", fn := fun _ => fun
  | [d1, d2, d3] => { results := [.lit (.bool false)], args := [d1, d2, d3] }
  | _ => none }
def DeltaDecodeWrongFalsely : Prop := deltaDecodeRow.holds Try.pinned (OpenSpec.ofChange deltaDecodeWrong)

/-- 'laminalaw09.DeltaInverse': WHATEVER THE INPUT: true; the input reads as it did. -/
def deltaInverseSpec : ChangeSpec := { name := "deltaInverse", fn := fun _ => fun
  | [d1, d2] => { results := [.lit (.bool true)], args := [d1, d2] }
  | _ => none }
def deltaInverseRow : OpenClaim := { program := "ytllhbjkkoogeeaa", sum := "353572726e0f7baeb5c94e75406587149f04cead1e190d80692827c659ee9ac7", func := "lamina/laminalaw09.DeltaInverse", spec := "deltaInverse", unfollowed := true, recurses := true, apart := false }
def DeltaInverseSaid : Prop := deltaInverseRow.holds Try.pinned (OpenSpec.ofChange deltaInverseSpec)

/-- ITS FALSE NEIGHBOUR: 'it returns false'. Refute it at one input. -/
def deltaInverseWrong : ChangeSpec := { name := "deltaInverse", fn := fun _ => fun
  | [d1, d2] => { results := [.lit (.bool false)], args := [d1, d2] }
  | _ => none }
def DeltaInverseWrongFalsely : Prop := deltaInverseRow.holds Try.pinned (OpenSpec.ofChange deltaInverseWrong)

/- THE SECOND FORM. 'bulk': how many values and letters a reading holds, each counted each time it is reached (what is shared counts as often as it is met; a slice's spare places count too). A statement '..UptoSaid' is the law's where the arguments, and the package variables that the reading takes, are together of bulk at most 1048576: NARROWER than '..Said'. Prove '..Said' where nothing that the law and all that it calls make is longer than what came in: it says more and counts as full. Else prove '..UptoSaid'. A law counts once. -/
mutual
def uptoBulk {H : Type} : DataW H → Nat
  | .lit (.string bytes) => bytes.length + 1
  | .lit _ => 1
  | .nil => 1
  | .ptr d => uptoBulk d + 1
  | .slice elems spare => uptoBulkAll elems + uptoBulkAll spare + 1
  | .agg parts => uptoBulkAll parts + 1
  | .iface _ d => uptoBulk d + 1
  | .map entries => uptoBulkEntries entries + 1
  | .held _ => 1
def uptoBulkAll {H : Type} : List (DataW H) → Nat
  | [] => 0
  | d :: r => uptoBulk d + uptoBulkAll r
def uptoBulkEntries {H : Type} : List (Lit × DataW H) → Nat
  | [] => 0
  | x :: r => uptoBulkEntry x + uptoBulkEntries r
def uptoBulkEntry {H : Type} : Lit × DataW H → Nat
  | (.string bytes, d) => bytes.length + uptoBulk d + 1
  | (_, d) => uptoBulk d + 1
 end
def uptoSmall : (H : Type) → List (DataW H) → Bool := fun _ ds => decide (uptoBulkAll ds ≤ 1048576)
def OpenSpec.upto (s : _root_.Go.ChangeSpec) : _root_.Go.OpenSpec := { _root_.Go.OpenSpec.ofChange s with cond := some uptoSmall }

/-- 'laminalaw06.BitpackPack', WHERE WHAT IT READS IS OF BULK AT MOST 1048576: true; the input reads as it did. -/
def bitpackPackUptoRow : OpenClaim := { program := "ytllhbjkkoogeeaa", sum := "353572726e0f7baeb5c94e75406587149f04cead1e190d80692827c659ee9ac7", func := "lamina/laminalaw06.BitpackPack", spec := "bitpackPack", unfollowed := true, recurses := true, apart := false, narrowed := true }
def BitpackPackUptoSaid : Prop := bitpackPackUptoRow.holds Try.pinned (OpenSpec.upto bitpackPackSpec)

/-- 'laminalaw06.BitpackUnpack', WHERE WHAT IT READS IS OF BULK AT MOST 1048576: true; the input reads as it did. -/
def bitpackUnpackUptoRow : OpenClaim := { program := "ytllhbjkkoogeeaa", sum := "353572726e0f7baeb5c94e75406587149f04cead1e190d80692827c659ee9ac7", func := "lamina/laminalaw06.BitpackUnpack", spec := "bitpackUnpack", unfollowed := true, recurses := true, apart := false, narrowed := true }
def BitpackUnpackUptoSaid : Prop := bitpackUnpackUptoRow.holds Try.pinned (OpenSpec.upto bitpackUnpackSpec)

/-- 'laminalaw09.DeltaRoundTrip', WHERE WHAT IT READS IS OF BULK AT MOST 1048576: true; the input reads as it did. -/
def deltaRoundTripUptoRow : OpenClaim := { program := "ytllhbjkkoogeeaa", sum := "353572726e0f7baeb5c94e75406587149f04cead1e190d80692827c659ee9ac7", func := "lamina/laminalaw09.DeltaRoundTrip", spec := "deltaRoundTrip", unfollowed := true, recurses := true, apart := false, narrowed := true }
def DeltaRoundTripUptoSaid : Prop := deltaRoundTripUptoRow.holds Try.pinned (OpenSpec.upto deltaRoundTripSpec)

/-- 'laminalaw06.BitpackRoundTrip', WHERE WHAT IT READS IS OF BULK AT MOST 1048576: true; the input reads as it did. -/
def bitpackRoundTripUptoRow : OpenClaim := { program := "ytllhbjkkoogeeaa", sum := "353572726e0f7baeb5c94e75406587149f04cead1e190d80692827c659ee9ac7", func := "lamina/laminalaw06.BitpackRoundTrip", spec := "bitpackRoundTrip", unfollowed := true, recurses := true, apart := false, narrowed := true }
def BitpackRoundTripUptoSaid : Prop := bitpackRoundTripUptoRow.holds Try.pinned (OpenSpec.upto bitpackRoundTripSpec)

/-- 'laminalaw06.BitpackTruncates', WHERE WHAT IT READS IS OF BULK AT MOST 1048576: true; the input reads as it did. -/
def bitpackTruncatesUptoRow : OpenClaim := { program := "ytllhbjkkoogeeaa", sum := "353572726e0f7baeb5c94e75406587149f04cead1e190d80692827c659ee9ac7", func := "lamina/laminalaw06.BitpackTruncates", spec := "bitpackTruncates", unfollowed := true, recurses := true, apart := false, narrowed := true }
def BitpackTruncatesUptoSaid : Prop := bitpackTruncatesUptoRow.holds Try.pinned (OpenSpec.upto bitpackTruncatesSpec)

/-- 'laminalaw06.BitpackCanonical', WHERE WHAT IT READS IS OF BULK AT MOST 1048576: true; the input reads as it did. -/
def bitpackCanonicalUptoRow : OpenClaim := { program := "ytllhbjkkoogeeaa", sum := "353572726e0f7baeb5c94e75406587149f04cead1e190d80692827c659ee9ac7", func := "lamina/laminalaw06.BitpackCanonical", spec := "bitpackCanonical", unfollowed := true, recurses := true, apart := false, narrowed := true }
def BitpackCanonicalUptoSaid : Prop := bitpackCanonicalUptoRow.holds Try.pinned (OpenSpec.upto bitpackCanonicalSpec)

/-- 'laminalaw09.DeltaLinear', WHERE WHAT IT READS IS OF BULK AT MOST 1048576: true; the input reads as it did. -/
def deltaLinearUptoRow : OpenClaim := { program := "ytllhbjkkoogeeaa", sum := "353572726e0f7baeb5c94e75406587149f04cead1e190d80692827c659ee9ac7", func := "lamina/laminalaw09.DeltaLinear", spec := "deltaLinear", unfollowed := true, recurses := true, apart := false, narrowed := true }
def DeltaLinearUptoSaid : Prop := deltaLinearUptoRow.holds Try.pinned (OpenSpec.upto deltaLinearSpec)

/-- 'laminalaw08.FramerefDecode', WHERE WHAT IT READS IS OF BULK AT MOST 1048576: true; the input reads as it did. -/
def framerefDecodeUptoRow : OpenClaim := { program := "ytllhbjkkoogeeaa", sum := "353572726e0f7baeb5c94e75406587149f04cead1e190d80692827c659ee9ac7", func := "lamina/laminalaw08.FramerefDecode", spec := "framerefDecode", unfollowed := true, recurses := true, apart := false, narrowed := true }
def FramerefDecodeUptoSaid : Prop := framerefDecodeUptoRow.holds Try.pinned (OpenSpec.upto framerefDecodeSpec)

/-- 'laminalaw08.FramerefEncode', WHERE WHAT IT READS IS OF BULK AT MOST 1048576: true; the input reads as it did. -/
def framerefEncodeUptoRow : OpenClaim := { program := "ytllhbjkkoogeeaa", sum := "353572726e0f7baeb5c94e75406587149f04cead1e190d80692827c659ee9ac7", func := "lamina/laminalaw08.FramerefEncode", spec := "framerefEncode", unfollowed := true, recurses := true, apart := false, narrowed := true }
def FramerefEncodeUptoSaid : Prop := framerefEncodeUptoRow.holds Try.pinned (OpenSpec.upto framerefEncodeSpec)

/-- 'laminalaw08.FramerefRoundTrip', WHERE WHAT IT READS IS OF BULK AT MOST 1048576: true; the input reads as it did. -/
def framerefRoundTripUptoRow : OpenClaim := { program := "ytllhbjkkoogeeaa", sum := "353572726e0f7baeb5c94e75406587149f04cead1e190d80692827c659ee9ac7", func := "lamina/laminalaw08.FramerefRoundTrip", spec := "framerefRoundTrip", unfollowed := true, recurses := true, apart := false, narrowed := true }
def FramerefRoundTripUptoSaid : Prop := framerefRoundTripUptoRow.holds Try.pinned (OpenSpec.upto framerefRoundTripSpec)

/-- 'laminalaw08.FramerefShortest', WHERE WHAT IT READS IS OF BULK AT MOST 1048576: true; the input reads as it did. -/
def framerefShortestUptoRow : OpenClaim := { program := "ytllhbjkkoogeeaa", sum := "353572726e0f7baeb5c94e75406587149f04cead1e190d80692827c659ee9ac7", func := "lamina/laminalaw08.FramerefShortest", spec := "framerefShortest", unfollowed := true, recurses := true, apart := false, narrowed := true }
def FramerefShortestUptoSaid : Prop := framerefShortestUptoRow.holds Try.pinned (OpenSpec.upto framerefShortestSpec)

/-- 'laminalaw08.FramerefAt', WHERE WHAT IT READS IS OF BULK AT MOST 1048576: true; the input reads as it did. -/
def framerefAtUptoRow : OpenClaim := { program := "ytllhbjkkoogeeaa", sum := "353572726e0f7baeb5c94e75406587149f04cead1e190d80692827c659ee9ac7", func := "lamina/laminalaw08.FramerefAt", spec := "framerefAt", unfollowed := true, recurses := true, apart := false, narrowed := true }
def FramerefAtUptoSaid : Prop := framerefAtUptoRow.holds Try.pinned (OpenSpec.upto framerefAtSpec)

/-- 'laminalaw09.DeltaEncode', WHERE WHAT IT READS IS OF BULK AT MOST 1048576: true; the input reads as it did. -/
def deltaEncodeUptoRow : OpenClaim := { program := "ytllhbjkkoogeeaa", sum := "353572726e0f7baeb5c94e75406587149f04cead1e190d80692827c659ee9ac7", func := "lamina/laminalaw09.DeltaEncode", spec := "deltaEncode", unfollowed := true, recurses := true, apart := false, narrowed := true }
def DeltaEncodeUptoSaid : Prop := deltaEncodeUptoRow.holds Try.pinned (OpenSpec.upto deltaEncodeSpec)

/-- 'laminalaw09.DeltaDecode', WHERE WHAT IT READS IS OF BULK AT MOST 1048576: true; the input reads as it did. -/
def deltaDecodeUptoRow : OpenClaim := { program := "ytllhbjkkoogeeaa", sum := "353572726e0f7baeb5c94e75406587149f04cead1e190d80692827c659ee9ac7", func := "lamina/laminalaw09.DeltaDecode", spec := "deltaDecode", unfollowed := true, recurses := true, apart := false, narrowed := true }
def DeltaDecodeUptoSaid : Prop := deltaDecodeUptoRow.holds Try.pinned (OpenSpec.upto deltaDecodeSpec)

/-- 'laminalaw09.DeltaInverse', WHERE WHAT IT READS IS OF BULK AT MOST 1048576: true; the input reads as it did. -/
def deltaInverseUptoRow : OpenClaim := { program := "ytllhbjkkoogeeaa", sum := "353572726e0f7baeb5c94e75406587149f04cead1e190d80692827c659ee9ac7", func := "lamina/laminalaw09.DeltaInverse", spec := "deltaInverse", unfollowed := true, recurses := true, apart := false, narrowed := true }
def DeltaInverseUptoSaid : Prop := deltaInverseUptoRow.holds Try.pinned (OpenSpec.upto deltaInverseSpec)

end Rows
end Go.Proofs.Ytllhbjkkoogeeaa
