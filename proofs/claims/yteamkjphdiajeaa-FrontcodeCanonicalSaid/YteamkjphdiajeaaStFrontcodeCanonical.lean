/- The pure statement of FrontcodeCanonical, and what its parameters are known to be. -/
import Derived.Test.YteamkjphdiajeaaQFrontcodeCanonicalx4
import Derived.Test.YteamkjphdiajeaaM03
set_option linter.unusedVariables false
namespace Go.Proofs.Yteamkjphdiajeaa.QFrontcodeCanonical
open Go Go.RowKit Go.Proofs.YteamkjphdiajeaaW.PrintWords Go.Proofs.YteamkjphdiajeaaM
def laminalaw11_FrontcodeCanonical.Pure : Prop := ∀ (l0 : List Int) (a1 : Int) (l2 : List ByteArray) (l3 : List ByteArray), (l0.length ≤ maxLen ∧ ∀ y0 ∈ l0, (Lit.int .u8 y0).wf = true) → l0.length * 1 ≤ 140737488351232 → (Lit.int .u8 a1).wf = true → (l2.length ≤ maxLen ∧ ∀ y0 ∈ l2, y0.size ≤ maxLen) → (l3.length ≤ maxLen ∧ ∀ y0 ∈ l3, y0.size ≤ maxLen) → ∃ k, laminalaw11_FrontcodeCanonical.f k l0 a1 l2 l3 = some true
end Go.Proofs.Yteamkjphdiajeaa.QFrontcodeCanonical
