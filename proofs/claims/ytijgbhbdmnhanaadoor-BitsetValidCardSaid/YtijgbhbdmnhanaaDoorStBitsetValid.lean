/- The pure statement of BitsetValid, and what its parameters are known to be. -/
import Derived.Test.YtijgbhbdmnhanaaDoorQBitsetValidx5
import Derived.Test.YtijgbhbdmnhanaaDoorM03
set_option linter.unusedVariables false
namespace Go.Proofs.YtijgbhbdmnhanaaDoor.QBitsetValid
open Go Go.RowKit Go.Proofs.YtijgbhbdmnhanaaDoorW.PrintWords Go.Proofs.YtijgbhbdmnhanaaDoorM
def ok25 (x : S25) : Prop := ((Lit.int .i64 x.f0).wf = true) ∧ ((x.f1.length ≤ maxLen ∧ ∀ y0 ∈ x.f1, (Lit.int .u64 y0).wf = true))
def laminalaw03_BitsetValid.Pure : Prop := ∀ (a0_0 : Int) (l0_1 : List Int), ok25 (⟨a0_0, l0_1⟩ : S25) → laminalaw03_BitsetValid.f a0_0 l0_1 = some true
end Go.Proofs.YtijgbhbdmnhanaaDoor.QBitsetValid
