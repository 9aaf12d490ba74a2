/- The pure statement of BitsetRankSelect, and what its parameters are known to be. -/
import Derived.Test.YtijgbhbdmnhanaaDoorQBitsetRankSelectx6
import Derived.Test.YtijgbhbdmnhanaaDoorM03
set_option linter.unusedVariables false
namespace Go.Proofs.YtijgbhbdmnhanaaDoor.QBitsetRankSelect
open Go Go.RowKit Go.Proofs.YtijgbhbdmnhanaaDoorW.PrintWords Go.Proofs.YtijgbhbdmnhanaaDoorM
def ok25 (x : S25) : Prop := ((Lit.int .i64 x.f0).wf = true) ∧ ((x.f1.length ≤ maxLen ∧ ∀ y0 ∈ x.f1, (Lit.int .u64 y0).wf = true))
def laminalaw03_BitsetRankSelect.Pure : Prop := ∀ (a0_0 : Int) (l0_1 : List Int) (a1 : Int), ok25 (⟨a0_0, l0_1⟩ : S25) → (Lit.int .i64 a1).wf = true → ∃ k, laminalaw03_BitsetRankSelect.f k a0_0 l0_1 a1 = some true
end Go.Proofs.YtijgbhbdmnhanaaDoor.QBitsetRankSelect
