/- The pure statement of BloomUnion, and what its parameters are known to be. -/
import Derived.Test.YtjeheopcohnkeaaQBloomUnionx11
import Derived.Test.YtjeheopcohnkeaaUM03
set_option linter.unusedVariables false
namespace Go.Proofs.Ytjeheopcohnkeaa.QBloomUnion
open Go Go.RowKit Go.Proofs.YtjeheopcohnkeaaW.PrintWords Go.Proofs.YtjeheopcohnkeaaM
def ok30 (x : S30) : Prop := ((Lit.int .i64 x.f0).wf = true) ∧ ((x.f1.length ≤ maxLen ∧ ∀ y0 ∈ x.f1, (Lit.int .u64 y0).wf = true))
def ok32 (x : S32) : Prop := ((Lit.int .i64 x.f0).wf = true) ∧ (ok30 x.f1)
def laminalaw15_BloomUnion.Pure : Prop := ∀ (a0_0 : Int) (a0_1 : Int) (l0_2 : List Int) (a1_0 : Int) (a1_1 : Int) (l1_2 : List Int), ok32 (⟨a0_0, (⟨a0_1, l0_2⟩ : S30)⟩ : S32) → ok32 (⟨a1_0, (⟨a1_1, l1_2⟩ : S30)⟩ : S32) → ∃ k, laminalaw15_BloomUnion.f k a0_0 a0_1 l0_2 a1_0 a1_1 l1_2 = some true
end Go.Proofs.Ytjeheopcohnkeaa.QBloomUnion
