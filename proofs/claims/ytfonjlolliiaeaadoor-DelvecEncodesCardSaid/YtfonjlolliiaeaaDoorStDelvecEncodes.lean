/- The pure statement of DelvecEncodes, and what its parameters are known to be. -/
import Derived.Test.YtfonjlolliiaeaaDoorQDelvecEncodesx9
import Derived.Test.YtfonjlolliiaeaaDoorUM03
set_option linter.unusedVariables false
namespace Go.Proofs.YtfonjlolliiaeaaDoor.QDelvecEncodes
open Go Go.RowKit Go.Proofs.YtfonjlolliiaeaaDoorW.PrintWords Go.Proofs.YtfonjlolliiaeaaDoorM
def ok24 (x : S24) : Prop := ((Lit.int .i64 x.f0).wf = true) ∧ ((x.f1.length ≤ maxLen ∧ ∀ y0 ∈ x.f1, (Lit.int .u64 y0).wf = true))
def laminalaw22_DelvecEncodes.Pure : Prop := ∀ (a0 : ByteArray) (a1_0 : Int) (l1_1 : List Int) (a2 : Int) (a3 : Int), a0.size ≤ maxLen → a0.size * 1 ≤ 140737488351232 → ok24 (⟨a1_0, l1_1⟩ : S24) → (Lit.int .i64 a2).wf = true → (Lit.int .u8 a3).wf = true → ∃ k, laminalaw22_DelvecEncodes.f k a0 a1_0 l1_1 a2 a3 = some true
end Go.Proofs.YtfonjlolliiaeaaDoor.QDelvecEncodes
