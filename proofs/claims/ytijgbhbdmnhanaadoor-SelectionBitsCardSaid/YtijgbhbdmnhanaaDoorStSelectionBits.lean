/- The pure statement of SelectionBits, and what its parameters are known to be. -/
import Derived.Test.YtijgbhbdmnhanaaDoorQSelectionBitsx6
import Derived.Test.YtijgbhbdmnhanaaDoorM03
set_option linter.unusedVariables false
namespace Go.Proofs.YtijgbhbdmnhanaaDoor.QSelectionBits
open Go Go.RowKit Go.Proofs.YtijgbhbdmnhanaaDoorW.PrintWords Go.Proofs.YtijgbhbdmnhanaaDoorM
def ok25 (x : S25) : Prop := ((Lit.int .i64 x.f0).wf = true) ∧ ((x.f1.length ≤ maxLen ∧ ∀ y0 ∈ x.f1, (Lit.int .u64 y0).wf = true))
def laminalaw41_SelectionBits.Pure : Prop := ∀ (l0 : List Int) (a1 : Int) (a2_0 : Int) (l2_1 : List Int), (l0.length ≤ maxLen ∧ ∀ y0 ∈ l0, (Lit.int .i64 y0).wf = true) → l0.length * 8 ≤ 140737488351232 → (Lit.int .i64 a1).wf = true → ok25 (⟨a2_0, l2_1⟩ : S25) → ∃ k, laminalaw41_SelectionBits.f k l0 a1 a2_0 l2_1 = some true
end Go.Proofs.YtijgbhbdmnhanaaDoor.QSelectionBits
