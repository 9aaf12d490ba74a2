/- The pure statement of RleRuns, and what its parameters are known to be. -/
import Derived.Test.YteamkjphdiajeaaQRleRunsx5
import Derived.Test.YteamkjphdiajeaaM03
set_option linter.unusedVariables false
namespace Go.Proofs.Yteamkjphdiajeaa.QRleRuns
open Go Go.RowKit Go.Proofs.YteamkjphdiajeaaW.PrintWords Go.Proofs.YteamkjphdiajeaaM
def ok77 (x : S77) : Prop := ((Lit.int .i64 x.f0).wf = true) ∧ ((Lit.int .i64 x.f1).wf = true)
def laminalaw07_RleRuns.Pure : Prop := ∀ (l0 : List Int) (l1 : List (S77)), (l0.length ≤ maxLen ∧ ∀ y0 ∈ l0, (Lit.int .i64 y0).wf = true) → l0.length * 8 ≤ 140737488351232 → (l1.length ≤ maxLen ∧ ∀ y0 ∈ l1, ok77 y0) → ∃ k, laminalaw07_RleRuns.f k l0 l1 = some true
end Go.Proofs.Yteamkjphdiajeaa.QRleRuns
