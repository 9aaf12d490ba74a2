/- The pure statement of DelvecSets, and what its parameters are known to be. -/
import Derived.Test.YtfonjlolliiaeaaDoorQDelvecSetsx10
import Derived.Test.YtfonjlolliiaeaaDoorUM03
set_option linter.unusedVariables false
namespace Go.Proofs.YtfonjlolliiaeaaDoor.QDelvecSets
open Go Go.RowKit Go.Proofs.YtfonjlolliiaeaaDoorW.PrintWords Go.Proofs.YtfonjlolliiaeaaDoorM
def ok24 (x : S24) : Prop := ((Lit.int .i64 x.f0).wf = true) ∧ ((x.f1.length ≤ maxLen ∧ ∀ y0 ∈ x.f1, (Lit.int .u64 y0).wf = true))
def laminalaw22_DelvecSets.Pure : Prop := ∀ (a0_0 : Int) (l0_1 : List Int) (a1_0 : Int) (l1_1 : List Int) (a2_0 : Int) (l2_1 : List Int) (a3 : Int), ok24 (⟨a0_0, l0_1⟩ : S24) → ok24 (⟨a1_0, l1_1⟩ : S24) → ok24 (⟨a2_0, l2_1⟩ : S24) → (Lit.int .i64 a3).wf = true → ∃ k, laminalaw22_DelvecSets.f k a0_0 l0_1 a1_0 l1_1 a2_0 l2_1 a3 = some true
end Go.Proofs.YtfonjlolliiaeaaDoor.QDelvecSets
