/- The pure statement of BitsetElements, and what its parameters are known to be. -/
import Derived.Test.YtijgbhbdmnhanaaDoorQBitsetElementsx9
import Derived.Test.YtijgbhbdmnhanaaDoorUM03
set_option linter.unusedVariables false
namespace Go.Proofs.YtijgbhbdmnhanaaDoor.QBitsetElements
open Go Go.RowKit Go.Proofs.YtijgbhbdmnhanaaDoorW.PrintWords Go.Proofs.YtijgbhbdmnhanaaDoorM
def laminalaw03_BitsetElements.Pure : Prop := ∀ (a0 : Int) (l1 : List Int) (a2 : Int) (a3 : Bool), (Lit.int .i64 a0).wf = true → (l1.length ≤ maxLen ∧ ∀ y0 ∈ l1, (Lit.int .i64 y0).wf = true) → l1.length * 8 ≤ 140737488351232 → (Lit.int .i64 a2).wf = true → ∃ k, laminalaw03_BitsetElements.f k a0 l1 a2 a3 = some true
end Go.Proofs.YtijgbhbdmnhanaaDoor.QBitsetElements
