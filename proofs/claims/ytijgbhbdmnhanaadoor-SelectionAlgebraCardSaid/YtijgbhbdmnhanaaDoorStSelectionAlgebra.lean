/- The pure statement of SelectionAlgebra, and what its parameters are known to be. -/
import Derived.Test.YtijgbhbdmnhanaaDoorQSelectionAlgebrax6
import Derived.Test.YtijgbhbdmnhanaaDoorM03
set_option linter.unusedVariables false
namespace Go.Proofs.YtijgbhbdmnhanaaDoor.QSelectionAlgebra
open Go Go.RowKit Go.Proofs.YtijgbhbdmnhanaaDoorW.PrintWords Go.Proofs.YtijgbhbdmnhanaaDoorM
def laminalaw41_SelectionAlgebra.Pure : Prop := ∀ (l0 : List Int) (l1 : List Int) (a2 : Int), (l0.length ≤ maxLen ∧ ∀ y0 ∈ l0, (Lit.int .i64 y0).wf = true) → l0.length * 8 ≤ 140737488351232 → (l1.length ≤ maxLen ∧ ∀ y0 ∈ l1, (Lit.int .i64 y0).wf = true) → l1.length * 8 ≤ 140737488351232 → (Lit.int .i64 a2).wf = true → ∃ k, laminalaw41_SelectionAlgebra.f k l0 l1 a2 = some true
end Go.Proofs.YtijgbhbdmnhanaaDoor.QSelectionAlgebra
