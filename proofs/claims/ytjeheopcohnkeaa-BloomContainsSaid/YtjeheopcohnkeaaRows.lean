/-
  No cell of these rows narrows 'for every input' (looked for: loops, veiled, ifaces, maps, wideKeys, modest, calm, conditions, laid).
  DERIVED. THE GIVEN ROWS OF THIS SEAT. 5 by the template 'for every input the law returns true; each argument reads behind the call as it read before'; 0 by the template 'total and deterministic' (their statements: YtjeheopcohnkeaaTotals.lean).
  GIVEN WITH THE SEED: the statements are not yours to turn. If you find one false, say at which input.
  Laid BY PROGRAM, IN A SANDBOX (cutbox-rows.mjs): the forced cells as the released guide's own fill.sh prints them over the translation 8ae3f30f165b4bd6… (all of the seat's roots in one cut). By AI agents, Wed Nov 11 2026. No macro, syntax, notation, axiom, sorry.
-/
import Derived.Test.YtjeheopcohnkeaaChecked
import GoSem.Claim
import GoSem.ClaimJoined
import GoSem.ClaimMapViews
import Derived.JoinedTies
import Derived.KernelRfl
namespace Go.Proofs.Ytjeheopcohnkeaa
/- THE CELL 'sum', in the pinned program and in every row, IS THE sha256 OF THE DUMP (.gsa) THAT YtjeheopcohnkeaaProg.lean LOADS. Nothing in Lean hashes anything: it is a label: what it is worth is what the hold of that sum in a sandbox is worth. -/
noncomputable def Try.pinned : Pinned := { name := "ytjeheopcohnkeaa", sum := "8ae3f30f165b4bd64fee2c40d74dca3664c44d08406b1909748075569030c3fc", checked := Try.checked }
namespace Rows
def none {H : Type} : Left H := { results := [], args := [] }

/-- 'laminalaw15.BloomBuild': WHATEVER THE INPUT: true; the input reads as it did. -/
def bloomBuildSpec : ChangeSpec := { name := "bloomBuild", fn := fun _ => fun
  | [d1, d2, d3] => { results := [.lit (.bool true)], args := [d1, d2, d3] }
  | _ => none }
def bloomBuildRow : OpenClaim := { program := "ytjeheopcohnkeaa", sum := "8ae3f30f165b4bd64fee2c40d74dca3664c44d08406b1909748075569030c3fc", func := "lamina/laminalaw15.BloomBuild", spec := "bloomBuild", unfollowed := true, recurses := true, apart := false }
def BloomBuildSaid : Prop := bloomBuildRow.holds Try.pinned (OpenSpec.ofChange bloomBuildSpec)

/-- ITS FALSE NEIGHBOUR: 'it returns false'. Refute it at one input. -/
def bloomBuildWrong : ChangeSpec := { name := "bloomBuild", fn := fun _ => fun
  | [d1, d2, d3] => { results := [.lit (.bool false)], args := [d1, d2, d3] }
  | _ => none }
def BloomBuildWrongFalsely : Prop := bloomBuildRow.holds Try.pinned (OpenSpec.ofChange bloomBuildWrong)

/-- 'laminalaw15.BloomUnion': WHATEVER THE INPUT: true; the input reads as it did. -/
def bloomUnionSpec : ChangeSpec := { name := "bloomUnion", fn := fun _ => fun
  | [d1, d2] => { results := [.lit (.bool true)], args := [d1, d2] }
  | _ => none }
def bloomUnionRow : OpenClaim := { program := "ytjeheopcohnkeaa", sum := "8ae3f30f165b4bd64fee2c40d74dca3664c44d08406b1909748075569030c3fc", func := "lamina/laminalaw15.BloomUnion", spec := "bloomUnion", unfollowed := true, recurses := true, apart := false }
def BloomUnionSaid : Prop := bloomUnionRow.holds Try.pinned (OpenSpec.ofChange bloomUnionSpec)

/-- ITS FALSE NEIGHBOUR: 'it returns false'. Refute it at one input. -/
def bloomUnionWrong : ChangeSpec := { name := "bloomUnion", fn := fun _ => fun
  | [d1, d2] => { results := [.lit (.bool false)], args := [d1, d2] }
  | _ => none }
def BloomUnionWrongFalsely : Prop := bloomUnionRow.holds Try.pinned (OpenSpec.ofChange bloomUnionWrong)

/-- 'laminalaw15.BloomCodec': WHATEVER THE INPUT: true; the input reads as it did. -/
def bloomCodecSpec : ChangeSpec := { name := "bloomCodec", fn := fun _ => fun
  | [d1, d2, d3] => { results := [.lit (.bool true)], args := [d1, d2, d3] }
  | _ => none }
def bloomCodecRow : OpenClaim := { program := "ytjeheopcohnkeaa", sum := "8ae3f30f165b4bd64fee2c40d74dca3664c44d08406b1909748075569030c3fc", func := "lamina/laminalaw15.BloomCodec", spec := "bloomCodec", unfollowed := true, recurses := true, apart := false }
def BloomCodecSaid : Prop := bloomCodecRow.holds Try.pinned (OpenSpec.ofChange bloomCodecSpec)

/-- ITS FALSE NEIGHBOUR: 'it returns false'. Refute it at one input. -/
def bloomCodecWrong : ChangeSpec := { name := "bloomCodec", fn := fun _ => fun
  | [d1, d2, d3] => { results := [.lit (.bool false)], args := [d1, d2, d3] }
  | _ => none }
def BloomCodecWrongFalsely : Prop := bloomCodecRow.holds Try.pinned (OpenSpec.ofChange bloomCodecWrong)

/-- 'laminalaw15.BloomContains': WHATEVER THE INPUT: true; the input reads as it did. -/
def bloomContainsSpec : ChangeSpec := { name := "bloomContains", fn := fun _ => fun
  | [d1, d2, d3] => { results := [.lit (.bool true)], args := [d1, d2, d3] }
  | _ => none }
def bloomContainsRow : OpenClaim := { program := "ytjeheopcohnkeaa", sum := "8ae3f30f165b4bd64fee2c40d74dca3664c44d08406b1909748075569030c3fc", func := "lamina/laminalaw15.BloomContains", spec := "bloomContains", unfollowed := true, recurses := true, apart := false }
def BloomContainsSaid : Prop := bloomContainsRow.holds Try.pinned (OpenSpec.ofChange bloomContainsSpec)

/-- ITS FALSE NEIGHBOUR: 'it returns false'. Refute it at one input. -/
def bloomContainsWrong : ChangeSpec := { name := "bloomContains", fn := fun _ => fun
  | [d1, d2, d3] => { results := [.lit (.bool false)], args := [d1, d2, d3] }
  | _ => none }
def BloomContainsWrongFalsely : Prop := bloomContainsRow.holds Try.pinned (OpenSpec.ofChange bloomContainsWrong)

/-- 'laminalaw15.BloomRoundTrip': WHATEVER THE INPUT: true; the input reads as it did. -/
def bloomRoundTripSpec : ChangeSpec := { name := "bloomRoundTrip", fn := fun _ => fun
  | [d1, d2] => { results := [.lit (.bool true)], args := [d1, d2] }
  | _ => none }
def bloomRoundTripRow : OpenClaim := { program := "ytjeheopcohnkeaa", sum := "8ae3f30f165b4bd64fee2c40d74dca3664c44d08406b1909748075569030c3fc", func := "lamina/laminalaw15.BloomRoundTrip", spec := "bloomRoundTrip", unfollowed := true, recurses := true, apart := false }
def BloomRoundTripSaid : Prop := bloomRoundTripRow.holds Try.pinned (OpenSpec.ofChange bloomRoundTripSpec)

/-- ITS FALSE NEIGHBOUR: 'it returns false'. Refute it at one input. -/
def bloomRoundTripWrong : ChangeSpec := { name := "bloomRoundTrip", fn := fun _ => fun
  | [d1, d2] => { results := [.lit (.bool false)], args := [d1, d2] }
  | _ => none }
def BloomRoundTripWrongFalsely : Prop := bloomRoundTripRow.holds Try.pinned (OpenSpec.ofChange bloomRoundTripWrong)

/- THE SECOND FORM. 'bulk': how many values and letters a reading holds, each counted each time it is reached (what is shared counts as often as it is met; a slice's spare places count too). A statement '..UptoSaid' is the law's where the arguments, and the package variables that the reading takes, are together of bulk at most 1048576: NARROWER than '..Said'. Prove '..Said' where nothing that the law and all that it calls make is longer than what came in: it says more and counts as full. Else prove '..UptoSaid'. A law counts once. -/
mutual
def uptoBulk {H : Type} : DataW H → Nat
  | .lit (.string bytes) => bytes.length + 1
  | .lit _ => 1
  | .nil => 1
  | .ptr d => uptoBulk d + 1
  | .slice elems spare => uptoBulkAll elems + uptoBulkAll spare + 1
  | .agg parts => uptoBulkAll parts + 1
  | .iface _ d => uptoBulk d + 1
  | .map entries => uptoBulkEntries entries + 1
  | .held _ => 1
def uptoBulkAll {H : Type} : List (DataW H) → Nat
  | [] => 0
  | d :: r => uptoBulk d + uptoBulkAll r
def uptoBulkEntries {H : Type} : List (Lit × DataW H) → Nat
  | [] => 0
  | x :: r => uptoBulkEntry x + uptoBulkEntries r
def uptoBulkEntry {H : Type} : Lit × DataW H → Nat
  | (.string bytes, d) => bytes.length + uptoBulk d + 1
  | (_, d) => uptoBulk d + 1
 end
def uptoSmall : (H : Type) → List (DataW H) → Bool := fun _ ds => decide (uptoBulkAll ds ≤ 1048576)
def OpenSpec.upto (s : _root_.Go.ChangeSpec) : _root_.Go.OpenSpec := { _root_.Go.OpenSpec.ofChange s with cond := some uptoSmall }

/-- 'laminalaw15.BloomBuild', WHERE WHAT IT READS IS OF BULK AT MOST 1048576: true; the input reads as it did. -/
def bloomBuildUptoRow : OpenClaim := { program := "ytjeheopcohnkeaa", sum := "8ae3f30f165b4bd64fee2c40d74dca3664c44d08406b1909748075569030c3fc", func := "lamina/laminalaw15.BloomBuild", spec := "bloomBuild", unfollowed := true, recurses := true, apart := false, narrowed := true }
def BloomBuildUptoSaid : Prop := bloomBuildUptoRow.holds Try.pinned (OpenSpec.upto bloomBuildSpec)

/-- 'laminalaw15.BloomUnion', WHERE WHAT IT READS IS OF BULK AT MOST 1048576: true; the input reads as it did. -/
def bloomUnionUptoRow : OpenClaim := { program := "ytjeheopcohnkeaa", sum := "8ae3f30f165b4bd64fee2c40d74dca3664c44d08406b1909748075569030c3fc", func := "lamina/laminalaw15.BloomUnion", spec := "bloomUnion", unfollowed := true, recurses := true, apart := false, narrowed := true }
def BloomUnionUptoSaid : Prop := bloomUnionUptoRow.holds Try.pinned (OpenSpec.upto bloomUnionSpec)

/-- 'laminalaw15.BloomCodec', WHERE WHAT IT READS IS OF BULK AT MOST 1048576: true; the input reads as it did. -/
def bloomCodecUptoRow : OpenClaim := { program := "ytjeheopcohnkeaa", sum := "8ae3f30f165b4bd64fee2c40d74dca3664c44d08406b1909748075569030c3fc", func := "lamina/laminalaw15.BloomCodec", spec := "bloomCodec", unfollowed := true, recurses := true, apart := false, narrowed := true }
def BloomCodecUptoSaid : Prop := bloomCodecUptoRow.holds Try.pinned (OpenSpec.upto bloomCodecSpec)

/-- 'laminalaw15.BloomContains', WHERE WHAT IT READS IS OF BULK AT MOST 1048576: true; the input reads as it did. -/
def bloomContainsUptoRow : OpenClaim := { program := "ytjeheopcohnkeaa", sum := "8ae3f30f165b4bd64fee2c40d74dca3664c44d08406b1909748075569030c3fc", func := "lamina/laminalaw15.BloomContains", spec := "bloomContains", unfollowed := true, recurses := true, apart := false, narrowed := true }
def BloomContainsUptoSaid : Prop := bloomContainsUptoRow.holds Try.pinned (OpenSpec.upto bloomContainsSpec)

/-- 'laminalaw15.BloomRoundTrip', WHERE WHAT IT READS IS OF BULK AT MOST 1048576: true; the input reads as it did. -/
def bloomRoundTripUptoRow : OpenClaim := { program := "ytjeheopcohnkeaa", sum := "8ae3f30f165b4bd64fee2c40d74dca3664c44d08406b1909748075569030c3fc", func := "lamina/laminalaw15.BloomRoundTrip", spec := "bloomRoundTrip", unfollowed := true, recurses := true, apart := false, narrowed := true }
def BloomRoundTripUptoSaid : Prop := bloomRoundTripUptoRow.holds Try.pinned (OpenSpec.upto bloomRoundTripSpec)

end Rows
end Go.Proofs.Ytjeheopcohnkeaa
