/- The pure statement of BloomContains, and what its parameters are known to be. -/
import Derived.Test.YtjeheopcohnkeaaQBloomContainsx9
import Derived.Test.YtjeheopcohnkeaaUM03
set_option linter.unusedVariables false
namespace Go.Proofs.Ytjeheopcohnkeaa.QBloomContains
open Go Go.RowKit Go.Proofs.YtjeheopcohnkeaaW.PrintWords Go.Proofs.YtjeheopcohnkeaaM
def ok24 (x : S24) : Prop := ((Lit.int .i64 x.f0).wf = true) ∧ ((Lit.int .i64 x.f1).wf = true) ∧ (x.f2.size ≤ maxLen)
def laminalaw15_BloomContains.Pure : Prop := ∀ (l0 : List (S24)) (l1 : List (S24)) (a2 : Int), (l0.length ≤ maxLen ∧ ∀ y0 ∈ l0, ok24 y0) → (l1.length ≤ maxLen ∧ ∀ y0 ∈ l1, ok24 y0) → (Lit.int .i64 a2).wf = true → ∃ k, laminalaw15_BloomContains.f k l0 l1 a2 = some true
end Go.Proofs.Ytjeheopcohnkeaa.QBloomContains
