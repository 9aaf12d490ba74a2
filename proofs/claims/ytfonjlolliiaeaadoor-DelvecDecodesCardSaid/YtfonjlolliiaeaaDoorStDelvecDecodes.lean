/- The pure statement of DelvecDecodes, and what its parameters are known to be. -/
import Derived.Test.YtfonjlolliiaeaaDoorQDelvecDecodesx9
import Derived.Test.YtfonjlolliiaeaaDoorUM03
set_option linter.unusedVariables false
namespace Go.Proofs.YtfonjlolliiaeaaDoor.QDelvecDecodes
open Go Go.RowKit Go.Proofs.YtfonjlolliiaeaaDoorW.PrintWords Go.Proofs.YtfonjlolliiaeaaDoorM
def laminalaw22_DelvecDecodes.Pure : Prop := ∀ (l0 : List Int), (l0.length ≤ maxLen ∧ ∀ y0 ∈ l0, (Lit.int .u8 y0).wf = true) → l0.length * 1 ≤ 140737488351232 → ∃ k, laminalaw22_DelvecDecodes.f k l0 = some true
end Go.Proofs.YtfonjlolliiaeaaDoor.QDelvecDecodes
