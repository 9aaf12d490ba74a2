/- The pure statement of BitsetAlgebra, and what its parameters are known to be. -/
import Derived.Test.YtijgbhbdmnhanaaDoorQBitsetAlgebrax8
import Derived.Test.YtijgbhbdmnhanaaDoorUM03
set_option linter.unusedVariables false
namespace Go.Proofs.YtijgbhbdmnhanaaDoor.QBitsetAlgebra
open Go Go.RowKit Go.Proofs.YtijgbhbdmnhanaaDoorW.PrintWords Go.Proofs.YtijgbhbdmnhanaaDoorM
def ok25 (x : S25) : Prop := ((Lit.int .i64 x.f0).wf = true) ∧ ((x.f1.length ≤ maxLen ∧ ∀ y0 ∈ x.f1, (Lit.int .u64 y0).wf = true))
def laminalaw03_BitsetAlgebra.Pure : Prop := ∀ (a0_0 : Int) (l0_1 : List Int) (a1_0 : Int) (l1_1 : List Int), ok25 (⟨a0_0, l0_1⟩ : S25) → ok25 (⟨a1_0, l1_1⟩ : S25) → ∃ k, laminalaw03_BitsetAlgebra.f k a0_0 l0_1 a1_0 l1_1 = some true
end Go.Proofs.YtijgbhbdmnhanaaDoor.QBitsetAlgebra
