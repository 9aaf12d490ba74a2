/- The pure statement of VarintEncode, and what its parameters are known to be. -/
import Derived.Test.YtcjlmbbaknmpdaaQVarintEncodex3
import Derived.Test.YtcjlmbbaknmpdaaM03
set_option linter.unusedVariables false
namespace Go.Proofs.Ytcjlmbbaknmpdaa.QVarintEncode
open Go Go.RowKit Go.Proofs.YtcjlmbbaknmpdaaW.PrintWords Go.Proofs.YtcjlmbbaknmpdaaM
def laminalaw01_VarintEncode.Pure : Prop := ∀ (a0 : Int) (l1 : List Int) (l2 : List Int), (Lit.int .u64 a0).wf = true → (l1.length ≤ maxLen ∧ ∀ y0 ∈ l1, (Lit.int .u8 y0).wf = true) → l1.length * 1 ≤ 140737488351232 → (l2.length ≤ maxLen ∧ ∀ y0 ∈ l2, (Lit.int .u8 y0).wf = true) → l2.length * 1 ≤ 140737488351232 → l1.length + l2.length ≤ 1048576 → ∃ k, laminalaw01_VarintEncode.f k a0 l1 l2 = some true
end Go.Proofs.Ytcjlmbbaknmpdaa.QVarintEncode
