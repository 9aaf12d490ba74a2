/- The pure statement of DelvecApplies, and what its parameters are known to be. -/
import Derived.Test.YtfonjlolliiaeaaDoorQDelvecAppliesx10
import Derived.Test.YtfonjlolliiaeaaDoorUM03
set_option linter.unusedVariables false
namespace Go.Proofs.YtfonjlolliiaeaaDoor.QDelvecApplies
open Go Go.RowKit Go.Proofs.YtfonjlolliiaeaaDoorW.PrintWords Go.Proofs.YtfonjlolliiaeaaDoorM
def ok77 (x : S77) : Prop := ((Lit.int .i64 x.f0).wf = true) ∧ ((Lit.int .i64 x.f1).wf = true) ∧ (x.f2.size ≤ maxLen)
def ok24 (x : S24) : Prop := ((Lit.int .i64 x.f0).wf = true) ∧ ((x.f1.length ≤ maxLen ∧ ∀ y0 ∈ x.f1, (Lit.int .u64 y0).wf = true))
def laminalaw22_DelvecApplies.Pure : Prop := ∀ (l0 : List (List (S77))) (a1_0 : Int) (l1_1 : List Int) (a2_0 : Int) (l2_1 : List Int), (l0.length ≤ maxLen ∧ ∀ y0 ∈ l0, (y0.length ≤ maxLen ∧ ∀ y1 ∈ y0, ok77 y1)) → ok24 (⟨a1_0, l1_1⟩ : S24) → ok24 (⟨a2_0, l2_1⟩ : S24) → ∃ k, laminalaw22_DelvecApplies.f k l0 a1_0 l1_1 a2_0 l2_1 = some true
end Go.Proofs.YtfonjlolliiaeaaDoor.QDelvecApplies
