/-
  No cell of these rows narrows 'for every input' (looked for: loops, veiled, ifaces, maps, wideKeys, modest, calm, conditions, laid).
  DERIVED. THE GIVEN ROWS OF THIS SEAT. 10 by the template 'for every input the law returns true; each argument reads behind the call as it read before'; 0 by the template 'total and deterministic' (their statements: YteamkjphdiajeaaTotals.lean).
  GIVEN WITH THE SEED: the statements are not yours to turn. If you find one false, say at which input.
  Laid BY PROGRAM, IN A SANDBOX (cutbox-rows.mjs): the forced cells as the released guide's own fill.sh prints them over the translation b76c3095adfe0730… (all of the seat's roots in one cut). By AI agents, Wed Nov 11 2026. No macro, syntax, notation, axiom, sorry.
-/
import Derived.Test.YteamkjphdiajeaaChecked
import GoSem.Claim
import GoSem.ClaimJoined
import GoSem.ClaimMapViews
import Derived.JoinedTies
import Derived.KernelRfl
namespace Go.Proofs.Yteamkjphdiajeaa
/- THE CELL 'sum', in the pinned program and in every row, IS THE sha256 OF THE DUMP (.gsa) THAT YteamkjphdiajeaaProg.lean LOADS. Nothing in Lean hashes anything: it is a label: what it is worth is what the hold of that sum in a sandbox is worth. -/
noncomputable def Try.pinned : Pinned := { name := "yteamkjphdiajeaa", sum := "b76c3095adfe0730bb6a5c888dbc2528c66025858eb1d67adbdfa8938d9ee9bd", checked := Try.checked }
namespace Rows
def none {H : Type} : Left H := { results := [], args := [] }

/-- 'laminalaw07.RleRuns': WHATEVER THE INPUT: true; the input reads as it did. -/
def rleRunsSpec : ChangeSpec := { name := "rleRuns", fn := fun _ => fun
  | [d1, d2] => { results := [.lit (.bool true)], args := [d1, d2] }
  | _ => none }
def rleRunsRow : OpenClaim := { program := "yteamkjphdiajeaa", sum := "b76c3095adfe0730bb6a5c888dbc2528c66025858eb1d67adbdfa8938d9ee9bd", func := "lamina/laminalaw07.RleRuns", spec := "rleRuns", apart := false }
def RleRunsSaid : Prop := rleRunsRow.holds Try.pinned (OpenSpec.ofChange rleRunsSpec)

/-- ITS FALSE NEIGHBOUR: 'it returns false'. Refute it at one input. -/
def rleRunsWrong : ChangeSpec := { name := "rleRuns", fn := fun _ => fun
  | [d1, d2] => { results := [.lit (.bool false)], args := [d1, d2] }
  | _ => none }
def RleRunsWrongFalsely : Prop := rleRunsRow.holds Try.pinned (OpenSpec.ofChange rleRunsWrong)

/-- 'laminalaw07.RleAccess': WHATEVER THE INPUT: true; the input reads as it did. -/
def rleAccessSpec : ChangeSpec := { name := "rleAccess", fn := fun _ => fun
  | [d1, d2, d3, d4] => { results := [.lit (.bool true)], args := [d1, d2, d3, d4] }
  | _ => none }
def rleAccessRow : OpenClaim := { program := "yteamkjphdiajeaa", sum := "b76c3095adfe0730bb6a5c888dbc2528c66025858eb1d67adbdfa8938d9ee9bd", func := "lamina/laminalaw07.RleAccess", spec := "rleAccess", unfollowed := true, recurses := true, apart := false }
def RleAccessSaid : Prop := rleAccessRow.holds Try.pinned (OpenSpec.ofChange rleAccessSpec)

/-- ITS FALSE NEIGHBOUR: 'it returns false'. Refute it at one input. -/
def rleAccessWrong : ChangeSpec := { name := "rleAccess", fn := fun _ => fun
  | [d1, d2, d3, d4] => { results := [.lit (.bool false)], args := [d1, d2, d3, d4] }
  | _ => none }
def RleAccessWrongFalsely : Prop := rleAccessRow.holds Try.pinned (OpenSpec.ofChange rleAccessWrong)

/-- 'laminalaw07.RleMembers': WHATEVER THE INPUT: true; the input reads as it did. -/
def rleMembersSpec : ChangeSpec := { name := "rleMembers", fn := fun _ => fun
  | [d1, d2] => { results := [.lit (.bool true)], args := [d1, d2] }
  | _ => none }
def rleMembersRow : OpenClaim := { program := "yteamkjphdiajeaa", sum := "b76c3095adfe0730bb6a5c888dbc2528c66025858eb1d67adbdfa8938d9ee9bd", func := "lamina/laminalaw07.RleMembers", spec := "rleMembers", unfollowed := true, recurses := true, apart := false }
def RleMembersSaid : Prop := rleMembersRow.holds Try.pinned (OpenSpec.ofChange rleMembersSpec)

/-- ITS FALSE NEIGHBOUR: 'it returns false'. Refute it at one input. -/
def rleMembersWrong : ChangeSpec := { name := "rleMembers", fn := fun _ => fun
  | [d1, d2] => { results := [.lit (.bool false)], args := [d1, d2] }
  | _ => none }
def RleMembersWrongFalsely : Prop := rleMembersRow.holds Try.pinned (OpenSpec.ofChange rleMembersWrong)

/-- 'laminalaw11.FrontcodeEncode': WHATEVER THE INPUT: true; the input reads as it did. -/
def frontcodeEncodeSpec : ChangeSpec := { name := "frontcodeEncode", fn := fun _ => fun
  | [d1, d2, d3] => { results := [.lit (.bool true)], args := [d1, d2, d3] }
  | _ => none }
def frontcodeEncodeRow : OpenClaim := { program := "yteamkjphdiajeaa", sum := "b76c3095adfe0730bb6a5c888dbc2528c66025858eb1d67adbdfa8938d9ee9bd", func := "lamina/laminalaw11.FrontcodeEncode", spec := "frontcodeEncode", apart := false }
def FrontcodeEncodeSaid : Prop := frontcodeEncodeRow.holds Try.pinned (OpenSpec.ofChange frontcodeEncodeSpec)

/-- ITS FALSE NEIGHBOUR: 'it returns false'. Refute it at one input. -/
def frontcodeEncodeWrong : ChangeSpec := { name := "frontcodeEncode", fn := fun _ => fun
  | [d1, d2, d3] => { results := [.lit (.bool false)], args := [d1, d2, d3] }
  | _ => none }
def FrontcodeEncodeWrongFalsely : Prop := frontcodeEncodeRow.holds Try.pinned (OpenSpec.ofChange frontcodeEncodeWrong)

/-- 'laminalaw11.FrontcodeDecode': WHATEVER THE INPUT: true; the input reads as it did. -/
def frontcodeDecodeSpec : ChangeSpec := { name := "frontcodeDecode", fn := fun _ => fun
  | [d1, d2, d3] => { results := [.lit (.bool true)], args := [d1, d2, d3] }
  | _ => none }
def frontcodeDecodeRow : OpenClaim := { program := "yteamkjphdiajeaa", sum := "b76c3095adfe0730bb6a5c888dbc2528c66025858eb1d67adbdfa8938d9ee9bd", func := "lamina/laminalaw11.FrontcodeDecode", spec := "frontcodeDecode", apart := false }
def FrontcodeDecodeSaid : Prop := frontcodeDecodeRow.holds Try.pinned (OpenSpec.ofChange frontcodeDecodeSpec)

/-- ITS FALSE NEIGHBOUR: 'it returns false'. Refute it at one input. -/
def frontcodeDecodeWrong : ChangeSpec := { name := "frontcodeDecode", fn := fun _ => fun
  | [d1, d2, d3] => { results := [.lit (.bool false)], args := [d1, d2, d3] }
  | _ => none }
def FrontcodeDecodeWrongFalsely : Prop := frontcodeDecodeRow.holds Try.pinned (OpenSpec.ofChange frontcodeDecodeWrong)

/-- 'laminalaw11.FrontcodeCanonical': WHATEVER THE INPUT: true; the input reads as it did. -/
def frontcodeCanonicalSpec : ChangeSpec := { name := "frontcodeCanonical", fn := fun _ => fun
  | [d1, d2, d3, d4] => { results := [.lit (.bool true)], args := [d1, d2, d3, d4] }
  | _ => none }
def frontcodeCanonicalRow : OpenClaim := { program := "yteamkjphdiajeaa", sum := "b76c3095adfe0730bb6a5c888dbc2528c66025858eb1d67adbdfa8938d9ee9bd", func := "lamina/laminalaw11.FrontcodeCanonical", spec := "frontcodeCanonical", apart := false }
def FrontcodeCanonicalSaid : Prop := frontcodeCanonicalRow.holds Try.pinned (OpenSpec.ofChange frontcodeCanonicalSpec)

/-- ITS FALSE NEIGHBOUR: 'it returns false'. Refute it at one input. -/
def frontcodeCanonicalWrong : ChangeSpec := { name := "frontcodeCanonical", fn := fun _ => fun
  | [d1, d2, d3, d4] => { results := [.lit (.bool false)], args := [d1, d2, d3, d4] }
  | _ => none }
def FrontcodeCanonicalWrongFalsely : Prop := frontcodeCanonicalRow.holds Try.pinned (OpenSpec.ofChange frontcodeCanonicalWrong)

/-- 'laminalaw11.FrontcodeAt': WHATEVER THE INPUT: true; the input reads as it did. -/
def frontcodeAtSpec : ChangeSpec := { name := "frontcodeAt", fn := fun _ => fun
  | [d1, d2, d3] => { results := [.lit (.bool true)], args := [d1, d2, d3] }
  | _ => none }
def frontcodeAtRow : OpenClaim := { program := "yteamkjphdiajeaa", sum := "b76c3095adfe0730bb6a5c888dbc2528c66025858eb1d67adbdfa8938d9ee9bd", func := "lamina/laminalaw11.FrontcodeAt", spec := "frontcodeAt", apart := false }
def FrontcodeAtSaid : Prop := frontcodeAtRow.holds Try.pinned (OpenSpec.ofChange frontcodeAtSpec)

/-- ITS FALSE NEIGHBOUR: 'it returns false'. Refute it at one input. -/
def frontcodeAtWrong : ChangeSpec := { name := "frontcodeAt", fn := fun _ => fun
  | [d1, d2, d3] => { results := [.lit (.bool false)], args := [d1, d2, d3] }
  | _ => none }
def FrontcodeAtWrongFalsely : Prop := frontcodeAtRow.holds Try.pinned (OpenSpec.ofChange frontcodeAtWrong)

/-- 'laminalaw11.FrontcodeRoundTrip': WHATEVER THE INPUT: true; the input reads as it did. -/
def frontcodeRoundTripSpec : ChangeSpec := { name := "frontcodeRoundTrip", fn := fun _ => fun
  | [d1, d2, d3] => { results := [.lit (.bool true)], args := [d1, d2, d3] }
  | _ => none }
def frontcodeRoundTripRow : OpenClaim := { program := "yteamkjphdiajeaa", sum := "b76c3095adfe0730bb6a5c888dbc2528c66025858eb1d67adbdfa8938d9ee9bd", func := "lamina/laminalaw11.FrontcodeRoundTrip", spec := "frontcodeRoundTrip", apart := false }
def FrontcodeRoundTripSaid : Prop := frontcodeRoundTripRow.holds Try.pinned (OpenSpec.ofChange frontcodeRoundTripSpec)

/-- ITS FALSE NEIGHBOUR: 'it returns false'. Refute it at one input. -/
def frontcodeRoundTripWrong : ChangeSpec := { name := "frontcodeRoundTrip", fn := fun _ => fun
  | [d1, d2, d3] => { results := [.lit (.bool false)], args := [d1, d2, d3] }
  | _ => none }
def FrontcodeRoundTripWrongFalsely : Prop := frontcodeRoundTripRow.holds Try.pinned (OpenSpec.ofChange frontcodeRoundTripWrong)

/-- 'laminalaw07.RleEncodes': WHATEVER THE INPUT: true; the input reads as it did. -/
def rleEncodesSpec : ChangeSpec := { name := "rleEncodes", fn := fun _ => fun
  | [d1, d2, d3] => { results := [.lit (.bool true)], args := [d1, d2, d3] }
  | _ => none }
def rleEncodesRow : OpenClaim := { program := "yteamkjphdiajeaa", sum := "b76c3095adfe0730bb6a5c888dbc2528c66025858eb1d67adbdfa8938d9ee9bd", func := "lamina/laminalaw07.RleEncodes", spec := "rleEncodes", apart := false }
def RleEncodesSaid : Prop := rleEncodesRow.holds Try.pinned (OpenSpec.ofChange rleEncodesSpec)

/-- ITS FALSE NEIGHBOUR: 'it returns false'. Refute it at one input. -/
def rleEncodesWrong : ChangeSpec := { name := "rleEncodes", fn := fun _ => fun
  | [d1, d2, d3] => { results := [.lit (.bool false)], args := [d1, d2, d3] }
  | _ => none }
def RleEncodesWrongFalsely : Prop := rleEncodesRow.holds Try.pinned (OpenSpec.ofChange rleEncodesWrong)

/-- 'laminalaw07.RleDecodes': WHATEVER THE INPUT: true; the input reads as it did. -/
def rleDecodesSpec : ChangeSpec := { name := "rleDecodes", fn := fun _ => fun
  | [d1, d2] => { results := [.lit (.bool true)], args := [d1, d2] }
  | _ => none }
def rleDecodesRow : OpenClaim := { program := "yteamkjphdiajeaa", sum := "b76c3095adfe0730bb6a5c888dbc2528c66025858eb1d67adbdfa8938d9ee9bd", func := "lamina/laminalaw07.RleDecodes", spec := "rleDecodes", apart := false }
def RleDecodesSaid : Prop := rleDecodesRow.holds Try.pinned (OpenSpec.ofChange rleDecodesSpec)

/-- ITS FALSE NEIGHBOUR: 'it returns false'. Refute it at one input. -/
def rleDecodesWrong : ChangeSpec := { name := "rleDecodes", fn := fun _ => fun
  | [d1, d2] => { results := [.lit (.bool false)], args := [d1, d2] }
  | _ => none }
def RleDecodesWrongFalsely : Prop := rleDecodesRow.holds Try.pinned (OpenSpec.ofChange rleDecodesWrong)

/- THE SECOND FORM. 'bulk': how many values and letters a reading holds, each counted each time it is reached (what is shared counts as often as it is met; a slice's spare places count too). A statement '..UptoSaid' is the law's where the arguments, and the package variables that the reading takes, are together of bulk at most 1048576: NARROWER than '..Said'. Prove '..Said' where nothing that the law and all that it calls make is longer than what came in: it says more and counts as full. Else prove '..UptoSaid'. A law counts once. -/
mutual
def uptoBulk {H : Type} : DataW H → Nat
  | .lit (.string bytes) => bytes.length + 1
  | .lit _ => 1
  | .nil => 1
  | .ptr d => uptoBulk d + 1
  | .slice elems spare => uptoBulkAll elems + uptoBulkAll spare + 1
  | .agg parts => uptoBulkAll parts + 1
  | .iface _ d => uptoBulk d + 1
  | .map entries => uptoBulkEntries entries + 1
  | .held _ => 1
def uptoBulkAll {H : Type} : List (DataW H) → Nat
  | [] => 0
  | d :: r => uptoBulk d + uptoBulkAll r
def uptoBulkEntries {H : Type} : List (Lit × DataW H) → Nat
  | [] => 0
  | x :: r => uptoBulkEntry x + uptoBulkEntries r
def uptoBulkEntry {H : Type} : Lit × DataW H → Nat
  | (.string bytes, d) => bytes.length + uptoBulk d + 1
  | (_, d) => uptoBulk d + 1
 end
def uptoSmall : (H : Type) → List (DataW H) → Bool := fun _ ds => decide (uptoBulkAll ds ≤ 1048576)
def OpenSpec.upto (s : _root_.Go.ChangeSpec) : _root_.Go.OpenSpec := { _root_.Go.OpenSpec.ofChange s with cond := some uptoSmall }

/-- 'laminalaw07.RleRuns', WHERE WHAT IT READS IS OF BULK AT MOST 1048576: true; the input reads as it did. -/
def rleRunsUptoRow : OpenClaim := { program := "yteamkjphdiajeaa", sum := "b76c3095adfe0730bb6a5c888dbc2528c66025858eb1d67adbdfa8938d9ee9bd", func := "lamina/laminalaw07.RleRuns", spec := "rleRuns", apart := false, narrowed := true }
def RleRunsUptoSaid : Prop := rleRunsUptoRow.holds Try.pinned (OpenSpec.upto rleRunsSpec)

/-- 'laminalaw07.RleAccess', WHERE WHAT IT READS IS OF BULK AT MOST 1048576: true; the input reads as it did. -/
def rleAccessUptoRow : OpenClaim := { program := "yteamkjphdiajeaa", sum := "b76c3095adfe0730bb6a5c888dbc2528c66025858eb1d67adbdfa8938d9ee9bd", func := "lamina/laminalaw07.RleAccess", spec := "rleAccess", unfollowed := true, recurses := true, apart := false, narrowed := true }
def RleAccessUptoSaid : Prop := rleAccessUptoRow.holds Try.pinned (OpenSpec.upto rleAccessSpec)

/-- 'laminalaw07.RleMembers', WHERE WHAT IT READS IS OF BULK AT MOST 1048576: true; the input reads as it did. -/
def rleMembersUptoRow : OpenClaim := { program := "yteamkjphdiajeaa", sum := "b76c3095adfe0730bb6a5c888dbc2528c66025858eb1d67adbdfa8938d9ee9bd", func := "lamina/laminalaw07.RleMembers", spec := "rleMembers", unfollowed := true, recurses := true, apart := false, narrowed := true }
def RleMembersUptoSaid : Prop := rleMembersUptoRow.holds Try.pinned (OpenSpec.upto rleMembersSpec)

/-- 'laminalaw11.FrontcodeEncode', WHERE WHAT IT READS IS OF BULK AT MOST 1048576: true; the input reads as it did. -/
def frontcodeEncodeUptoRow : OpenClaim := { program := "yteamkjphdiajeaa", sum := "b76c3095adfe0730bb6a5c888dbc2528c66025858eb1d67adbdfa8938d9ee9bd", func := "lamina/laminalaw11.FrontcodeEncode", spec := "frontcodeEncode", apart := false, narrowed := true }
def FrontcodeEncodeUptoSaid : Prop := frontcodeEncodeUptoRow.holds Try.pinned (OpenSpec.upto frontcodeEncodeSpec)

/-- 'laminalaw11.FrontcodeDecode', WHERE WHAT IT READS IS OF BULK AT MOST 1048576: true; the input reads as it did. -/
def frontcodeDecodeUptoRow : OpenClaim := { program := "yteamkjphdiajeaa", sum := "b76c3095adfe0730bb6a5c888dbc2528c66025858eb1d67adbdfa8938d9ee9bd", func := "lamina/laminalaw11.FrontcodeDecode", spec := "frontcodeDecode", apart := false, narrowed := true }
def FrontcodeDecodeUptoSaid : Prop := frontcodeDecodeUptoRow.holds Try.pinned (OpenSpec.upto frontcodeDecodeSpec)

/-- 'laminalaw11.FrontcodeCanonical', WHERE WHAT IT READS IS OF BULK AT MOST 1048576: true; the input reads as it did. -/
def frontcodeCanonicalUptoRow : OpenClaim := { program := "yteamkjphdiajeaa", sum := "b76c3095adfe0730bb6a5c888dbc2528c66025858eb1d67adbdfa8938d9ee9bd", func := "lamina/laminalaw11.FrontcodeCanonical", spec := "frontcodeCanonical", apart := false, narrowed := true }
def FrontcodeCanonicalUptoSaid : Prop := frontcodeCanonicalUptoRow.holds Try.pinned (OpenSpec.upto frontcodeCanonicalSpec)

/-- 'laminalaw11.FrontcodeAt', WHERE WHAT IT READS IS OF BULK AT MOST 1048576: true; the input reads as it did. -/
def frontcodeAtUptoRow : OpenClaim := { program := "yteamkjphdiajeaa", sum := "b76c3095adfe0730bb6a5c888dbc2528c66025858eb1d67adbdfa8938d9ee9bd", func := "lamina/laminalaw11.FrontcodeAt", spec := "frontcodeAt", apart := false, narrowed := true }
def FrontcodeAtUptoSaid : Prop := frontcodeAtUptoRow.holds Try.pinned (OpenSpec.upto frontcodeAtSpec)

/-- 'laminalaw11.FrontcodeRoundTrip', WHERE WHAT IT READS IS OF BULK AT MOST 1048576: true; the input reads as it did. -/
def frontcodeRoundTripUptoRow : OpenClaim := { program := "yteamkjphdiajeaa", sum := "b76c3095adfe0730bb6a5c888dbc2528c66025858eb1d67adbdfa8938d9ee9bd", func := "lamina/laminalaw11.FrontcodeRoundTrip", spec := "frontcodeRoundTrip", apart := false, narrowed := true }
def FrontcodeRoundTripUptoSaid : Prop := frontcodeRoundTripUptoRow.holds Try.pinned (OpenSpec.upto frontcodeRoundTripSpec)

/-- 'laminalaw07.RleEncodes', WHERE WHAT IT READS IS OF BULK AT MOST 1048576: true; the input reads as it did. -/
def rleEncodesUptoRow : OpenClaim := { program := "yteamkjphdiajeaa", sum := "b76c3095adfe0730bb6a5c888dbc2528c66025858eb1d67adbdfa8938d9ee9bd", func := "lamina/laminalaw07.RleEncodes", spec := "rleEncodes", apart := false, narrowed := true }
def RleEncodesUptoSaid : Prop := rleEncodesUptoRow.holds Try.pinned (OpenSpec.upto rleEncodesSpec)

/-- 'laminalaw07.RleDecodes', WHERE WHAT IT READS IS OF BULK AT MOST 1048576: true; the input reads as it did. -/
def rleDecodesUptoRow : OpenClaim := { program := "yteamkjphdiajeaa", sum := "b76c3095adfe0730bb6a5c888dbc2528c66025858eb1d67adbdfa8938d9ee9bd", func := "lamina/laminalaw07.RleDecodes", spec := "rleDecodes", apart := false, narrowed := true }
def RleDecodesUptoSaid : Prop := rleDecodesUptoRow.holds Try.pinned (OpenSpec.upto rleDecodesSpec)

end Rows
end Go.Proofs.Yteamkjphdiajeaa
