/- The pure statement of BloomRoundTrip, and what its parameters are known to be. -/
import Derived.Test.YtjeheopcohnkeaaQBloomRoundTripx10
import Derived.Test.YtjeheopcohnkeaaUM03
set_option linter.unusedVariables false
namespace Go.Proofs.Ytjeheopcohnkeaa.QBloomRoundTrip
open Go Go.RowKit Go.Proofs.YtjeheopcohnkeaaW.PrintWords Go.Proofs.YtjeheopcohnkeaaM
def ok30 (x : S30) : Prop := ((Lit.int .i64 x.f0).wf = true) ∧ ((x.f1.length ≤ maxLen ∧ ∀ y0 ∈ x.f1, (Lit.int .u64 y0).wf = true))
def ok32 (x : S32) : Prop := ((Lit.int .i64 x.f0).wf = true) ∧ (ok30 x.f1)
def laminalaw15_BloomRoundTrip.Pure : Prop := ∀ (a0_0 : Int) (a0_1 : Int) (l0_2 : List Int) (l1 : List Int), ok32 (⟨a0_0, (⟨a0_1, l0_2⟩ : S30)⟩ : S32) → (l1.length ≤ maxLen ∧ ∀ y0 ∈ l1, (Lit.int .u8 y0).wf = true) → l1.length * 1 ≤ 140737488351232 → ∃ k, laminalaw15_BloomRoundTrip.f k a0_0 a0_1 l0_2 l1 = some true
end Go.Proofs.Ytjeheopcohnkeaa.QBloomRoundTrip
