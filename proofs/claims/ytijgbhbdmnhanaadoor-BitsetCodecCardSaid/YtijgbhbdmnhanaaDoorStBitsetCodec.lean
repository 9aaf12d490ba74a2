/- The pure statement of BitsetCodec, and what its parameters are known to be. -/
import Derived.Test.YtijgbhbdmnhanaaDoorQBitsetCodecx8
import Derived.Test.YtijgbhbdmnhanaaDoorM03
set_option linter.unusedVariables false
namespace Go.Proofs.YtijgbhbdmnhanaaDoor.QBitsetCodec
open Go Go.RowKit Go.Proofs.YtijgbhbdmnhanaaDoorW.PrintWords Go.Proofs.YtijgbhbdmnhanaaDoorM
def ok25 (x : S25) : Prop := ((Lit.int .i64 x.f0).wf = true) ∧ ((x.f1.length ≤ maxLen ∧ ∀ y0 ∈ x.f1, (Lit.int .u64 y0).wf = true))
def laminalaw03_BitsetCodec.Pure : Prop := ∀ (a0_0 : Int) (l0_1 : List Int) (l1 : List Int) (a2 : Int), ok25 (⟨a0_0, l0_1⟩ : S25) → (l1.length ≤ maxLen ∧ ∀ y0 ∈ l1, (Lit.int .u8 y0).wf = true) → l1.length * 1 ≤ 140737488351232 → (Lit.int .i64 a2).wf = true → ∃ k, laminalaw03_BitsetCodec.f k a0_0 l0_1 l1 a2 = some true
end Go.Proofs.YtijgbhbdmnhanaaDoor.QBitsetCodec
