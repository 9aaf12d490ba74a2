/-
  No cell of these rows narrows 'for every input' (looked for: loops, veiled, ifaces, maps, wideKeys, modest, calm, conditions, laid).
  DERIVED. THE GIVEN ROWS OF THIS SEAT. 5 by the template 'for every input the law returns true; each argument reads behind the call as it read before'; 0 by the template 'total and deterministic' (their statements: YtcjlmbbaknmpdaaTotals.lean).
  GIVEN WITH THE SEED: the statements are not yours to turn. If you find one false, say at which input.
  Laid BY PROGRAM, IN A SANDBOX (cutbox-rows.mjs): the forced cells as the released guide's own fill.sh prints them over the translation f33cd0babaf34af8… (all of the seat's roots in one cut). By AI agents, Wed Nov 11 2026. No macro, syntax, notation, axiom, sorry.
-/
import Derived.Test.YtcjlmbbaknmpdaaChecked
import GoSem.Claim
import GoSem.ClaimJoined
import GoSem.ClaimMapViews
import Derived.JoinedTies
import Derived.KernelRfl
namespace Go.Proofs.Ytcjlmbbaknmpdaa
/- THE CELL 'sum', in the pinned program and in every row, IS THE sha256 OF THE DUMP (.gsa) THAT YtcjlmbbaknmpdaaProg.lean LOADS. Nothing in Lean hashes anything: it is a label: what it is worth is what the hold of that sum in a sandbox is worth. -/
noncomputable def Try.pinned : Pinned := { name := "ytcjlmbbaknmpdaa", sum := "f33cd0babaf34af858e838fff7d9f08aa36e3e9928bf1d2b17a2831b4953aead", checked := Try.checked }
namespace Rows
def none {H : Type} : Left H := { results := [], args := [] }

/-- 'laminalaw01.VarintDecode': WHATEVER THE INPUT: true; the input reads as it did. -/
def varintDecodeSpec : ChangeSpec := { name := "varintDecode", fn := fun _ => fun
  | [d1, d2] => { results := [.lit (.bool true)], args := [d1, d2] }
  | _ => none }
def varintDecodeRow : OpenClaim := { program := "ytcjlmbbaknmpdaa", sum := "f33cd0babaf34af858e838fff7d9f08aa36e3e9928bf1d2b17a2831b4953aead", func := "lamina/laminalaw01.VarintDecode", spec := "varintDecode", apart := false }
def VarintDecodeSaid : Prop := varintDecodeRow.holds Try.pinned (OpenSpec.ofChange varintDecodeSpec)

/-- ITS FALSE NEIGHBOUR: 'it returns false'. Refute it at one input. -/
def varintDecodeWrong : ChangeSpec := { name := "varintDecode", fn := fun _ => fun
  | [d1, d2] => { results := [.lit (.bool false)], args := [d1, d2] }
  | _ => none }
def VarintDecodeWrongFalsely : Prop := varintDecodeRow.holds Try.pinned (OpenSpec.ofChange varintDecodeWrong)

/-- 'laminalaw01.VarintZigZag': WHATEVER THE INPUT: true; the input reads as it did. -/
def varintZigZagSpec : ChangeSpec := { name := "varintZigZag", fn := fun _ => fun
  | [d1, d2, d3] => { results := [.lit (.bool true)], args := [d1, d2, d3] }
  | _ => none }
def varintZigZagRow : OpenClaim := { program := "ytcjlmbbaknmpdaa", sum := "f33cd0babaf34af858e838fff7d9f08aa36e3e9928bf1d2b17a2831b4953aead", func := "lamina/laminalaw01.VarintZigZag", spec := "varintZigZag", apart := false }
def VarintZigZagSaid : Prop := varintZigZagRow.holds Try.pinned (OpenSpec.ofChange varintZigZagSpec)

/-- ITS FALSE NEIGHBOUR: 'it returns false'. Refute it at one input. -/
def varintZigZagWrong : ChangeSpec := { name := "varintZigZag", fn := fun _ => fun
  | [d1, d2, d3] => { results := [.lit (.bool false)], args := [d1, d2, d3] }
  | _ => none }
def VarintZigZagWrongFalsely : Prop := varintZigZagRow.holds Try.pinned (OpenSpec.ofChange varintZigZagWrong)

/-- 'laminalaw01.VarintFixed': WHATEVER THE INPUT: true; the input reads as it did. -/
def varintFixedSpec : ChangeSpec := { name := "varintFixed", fn := fun _ => fun
  | [d1, d2, d3, d4] => { results := [.lit (.bool true)], args := [d1, d2, d3, d4] }
  | _ => none }
def varintFixedRow : OpenClaim := { program := "ytcjlmbbaknmpdaa", sum := "f33cd0babaf34af858e838fff7d9f08aa36e3e9928bf1d2b17a2831b4953aead", func := "lamina/laminalaw01.VarintFixed", spec := "varintFixed", apart := false }
def VarintFixedSaid : Prop := varintFixedRow.holds Try.pinned (OpenSpec.ofChange varintFixedSpec)

/-- ITS FALSE NEIGHBOUR: 'it returns false'. Refute it at one input. -/
def varintFixedWrong : ChangeSpec := { name := "varintFixed", fn := fun _ => fun
  | [d1, d2, d3, d4] => { results := [.lit (.bool false)], args := [d1, d2, d3, d4] }
  | _ => none }
def VarintFixedWrongFalsely : Prop := varintFixedRow.holds Try.pinned (OpenSpec.ofChange varintFixedWrong)

/-- 'laminalaw01.VarintEncode': WHATEVER THE INPUT: true; the input reads as it did. -/
def varintEncodeSpec : ChangeSpec := { name := "varintEncode", fn := fun _ => fun
  | [d1, d2, d3] => { results := [.lit (.bool true)], args := [d1, d2, d3] }
  | _ => none }
def varintEncodeRow : OpenClaim := { program := "ytcjlmbbaknmpdaa", sum := "f33cd0babaf34af858e838fff7d9f08aa36e3e9928bf1d2b17a2831b4953aead", func := "lamina/laminalaw01.VarintEncode", spec := "varintEncode", apart := false }
def VarintEncodeSaid : Prop := varintEncodeRow.holds Try.pinned (OpenSpec.ofChange varintEncodeSpec)

/-- ITS FALSE NEIGHBOUR: 'it returns false'. Refute it at one input. -/
def varintEncodeWrong : ChangeSpec := { name := "varintEncode", fn := fun _ => fun
  | [d1, d2, d3] => { results := [.lit (.bool false)], args := [d1, d2, d3] }
  | _ => none }
def VarintEncodeWrongFalsely : Prop := varintEncodeRow.holds Try.pinned (OpenSpec.ofChange varintEncodeWrong)

/-- 'laminalaw01.VarintRoundTrip': WHATEVER THE INPUT: true; the input reads as it did. -/
def varintRoundTripSpec : ChangeSpec := { name := "varintRoundTrip", fn := fun _ => fun
  | [d1, d2, d3] => { results := [.lit (.bool true)], args := [d1, d2, d3] }
  | _ => none }
def varintRoundTripRow : OpenClaim := { program := "ytcjlmbbaknmpdaa", sum := "f33cd0babaf34af858e838fff7d9f08aa36e3e9928bf1d2b17a2831b4953aead", func := "lamina/laminalaw01.VarintRoundTrip", spec := "varintRoundTrip", apart := false }
def VarintRoundTripSaid : Prop := varintRoundTripRow.holds Try.pinned (OpenSpec.ofChange varintRoundTripSpec)

/-- ITS FALSE NEIGHBOUR: 'it returns false'. Refute it at one input. -/
def varintRoundTripWrong : ChangeSpec := { name := "varintRoundTrip", fn := fun _ => fun
  | [d1, d2, d3] => { results := [.lit (.bool false)], args := [d1, d2, d3] }
  | _ => none }
def VarintRoundTripWrongFalsely : Prop := varintRoundTripRow.holds Try.pinned (OpenSpec.ofChange varintRoundTripWrong)

/- THE SECOND FORM. 'bulk': how many values and letters a reading holds, each counted each time it is reached (what is shared counts as often as it is met; a slice's spare places count too). A statement '..UptoSaid' is the law's where the arguments, and the package variables that the reading takes, are together of bulk at most 1048576: NARROWER than '..Said'. Prove '..Said' where nothing that the law and all that it calls make is longer than what came in: it says more and counts as full. Else prove '..UptoSaid'. A law counts once. -/
mutual
def uptoBulk {H : Type} : DataW H → Nat
  | .lit (.string bytes) => bytes.length + 1
  | .lit _ => 1
  | .nil => 1
  | .ptr d => uptoBulk d + 1
  | .slice elems spare => uptoBulkAll elems + uptoBulkAll spare + 1
  | .agg parts => uptoBulkAll parts + 1
  | .iface _ d => uptoBulk d + 1
  | .map entries => uptoBulkEntries entries + 1
  | .held _ => 1
def uptoBulkAll {H : Type} : List (DataW H) → Nat
  | [] => 0
  | d :: r => uptoBulk d + uptoBulkAll r
def uptoBulkEntries {H : Type} : List (Lit × DataW H) → Nat
  | [] => 0
  | x :: r => uptoBulkEntry x + uptoBulkEntries r
def uptoBulkEntry {H : Type} : Lit × DataW H → Nat
  | (.string bytes, d) => bytes.length + uptoBulk d + 1
  | (_, d) => uptoBulk d + 1
 end
def uptoSmall : (H : Type) → List (DataW H) → Bool := fun _ ds => decide (uptoBulkAll ds ≤ 1048576)
def OpenSpec.upto (s : _root_.Go.ChangeSpec) : _root_.Go.OpenSpec := { _root_.Go.OpenSpec.ofChange s with cond := some uptoSmall }

/-- 'laminalaw01.VarintDecode', WHERE WHAT IT READS IS OF BULK AT MOST 1048576: true; the input reads as it did. -/
def varintDecodeUptoRow : OpenClaim := { program := "ytcjlmbbaknmpdaa", sum := "f33cd0babaf34af858e838fff7d9f08aa36e3e9928bf1d2b17a2831b4953aead", func := "lamina/laminalaw01.VarintDecode", spec := "varintDecode", apart := false, narrowed := true }
def VarintDecodeUptoSaid : Prop := varintDecodeUptoRow.holds Try.pinned (OpenSpec.upto varintDecodeSpec)

/-- 'laminalaw01.VarintZigZag', WHERE WHAT IT READS IS OF BULK AT MOST 1048576: true; the input reads as it did. -/
def varintZigZagUptoRow : OpenClaim := { program := "ytcjlmbbaknmpdaa", sum := "f33cd0babaf34af858e838fff7d9f08aa36e3e9928bf1d2b17a2831b4953aead", func := "lamina/laminalaw01.VarintZigZag", spec := "varintZigZag", apart := false, narrowed := true }
def VarintZigZagUptoSaid : Prop := varintZigZagUptoRow.holds Try.pinned (OpenSpec.upto varintZigZagSpec)

/-- 'laminalaw01.VarintFixed', WHERE WHAT IT READS IS OF BULK AT MOST 1048576: true; the input reads as it did. -/
def varintFixedUptoRow : OpenClaim := { program := "ytcjlmbbaknmpdaa", sum := "f33cd0babaf34af858e838fff7d9f08aa36e3e9928bf1d2b17a2831b4953aead", func := "lamina/laminalaw01.VarintFixed", spec := "varintFixed", apart := false, narrowed := true }
def VarintFixedUptoSaid : Prop := varintFixedUptoRow.holds Try.pinned (OpenSpec.upto varintFixedSpec)

/-- 'laminalaw01.VarintEncode', WHERE WHAT IT READS IS OF BULK AT MOST 1048576: true; the input reads as it did. -/
def varintEncodeUptoRow : OpenClaim := { program := "ytcjlmbbaknmpdaa", sum := "f33cd0babaf34af858e838fff7d9f08aa36e3e9928bf1d2b17a2831b4953aead", func := "lamina/laminalaw01.VarintEncode", spec := "varintEncode", apart := false, narrowed := true }
def VarintEncodeUptoSaid : Prop := varintEncodeUptoRow.holds Try.pinned (OpenSpec.upto varintEncodeSpec)

/-- 'laminalaw01.VarintRoundTrip', WHERE WHAT IT READS IS OF BULK AT MOST 1048576: true; the input reads as it did. -/
def varintRoundTripUptoRow : OpenClaim := { program := "ytcjlmbbaknmpdaa", sum := "f33cd0babaf34af858e838fff7d9f08aa36e3e9928bf1d2b17a2831b4953aead", func := "lamina/laminalaw01.VarintRoundTrip", spec := "varintRoundTrip", apart := false, narrowed := true }
def VarintRoundTripUptoSaid : Prop := varintRoundTripUptoRow.holds Try.pinned (OpenSpec.upto varintRoundTripSpec)

end Rows
end Go.Proofs.Ytcjlmbbaknmpdaa
