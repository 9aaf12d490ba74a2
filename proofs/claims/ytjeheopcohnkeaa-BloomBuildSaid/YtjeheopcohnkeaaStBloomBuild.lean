/- The pure statement of BloomBuild, and what its parameters are known to be. -/
import Derived.Test.YtjeheopcohnkeaaQBloomBuildx11
import Derived.Test.YtjeheopcohnkeaaUM03
set_option linter.unusedVariables false
namespace Go.Proofs.Ytjeheopcohnkeaa.QBloomBuild
open Go Go.RowKit Go.Proofs.YtjeheopcohnkeaaW.PrintWords Go.Proofs.YtjeheopcohnkeaaM
def ok24 (x : S24) : Prop := ((Lit.int .i64 x.f0).wf = true) ∧ ((Lit.int .i64 x.f1).wf = true) ∧ (x.f2.size ≤ maxLen)
def laminalaw15_BloomBuild.Pure : Prop := ∀ (l0 : List (S24)) (a1 : Int) (a2_0 : Int) (a2_1 : Int) (a2_2 : ByteArray), (l0.length ≤ maxLen ∧ ∀ y0 ∈ l0, ok24 y0) → (Lit.int .i64 a1).wf = true → ok24 (⟨a2_0, a2_1, a2_2⟩ : S24) → ∃ k, laminalaw15_BloomBuild.f k l0 a1 a2_0 a2_1 a2_2 = some true
end Go.Proofs.Ytjeheopcohnkeaa.QBloomBuild
