/- The pure statement of BitsetRoundTrip, and what its parameters are known to be. -/
import Derived.Test.YtijgbhbdmnhanaaDoorQBitsetRoundTripx6
import Derived.Test.YtijgbhbdmnhanaaDoorM03
set_option linter.unusedVariables false
namespace Go.Proofs.YtijgbhbdmnhanaaDoor.QBitsetRoundTrip
open Go Go.RowKit Go.Proofs.YtijgbhbdmnhanaaDoorW.PrintWords Go.Proofs.YtijgbhbdmnhanaaDoorM
def ok25 (x : S25) : Prop := ((Lit.int .i64 x.f0).wf = true) ∧ ((x.f1.length ≤ maxLen ∧ ∀ y0 ∈ x.f1, (Lit.int .u64 y0).wf = true))
def laminalaw03_BitsetRoundTrip.Pure : Prop := ∀ (a0_0 : Int) (l0_1 : List Int) (l1 : List Int) (l2 : List Int), ok25 (⟨a0_0, l0_1⟩ : S25) → (l1.length ≤ maxLen ∧ ∀ y0 ∈ l1, (Lit.int .u8 y0).wf = true) → l1.length * 1 ≤ 140737488351232 → (l2.length ≤ maxLen ∧ ∀ y0 ∈ l2, (Lit.int .u8 y0).wf = true) → l2.length * 1 ≤ 140737488351232 → ∃ k, laminalaw03_BitsetRoundTrip.f k a0_0 l0_1 l1 l2 = some true
end Go.Proofs.YtijgbhbdmnhanaaDoor.QBitsetRoundTrip
