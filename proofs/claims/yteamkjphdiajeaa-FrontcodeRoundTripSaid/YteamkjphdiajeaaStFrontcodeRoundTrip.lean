/- The pure statement of FrontcodeRoundTrip, and what its parameters are known to be. -/
import Derived.Test.YteamkjphdiajeaaQFrontcodeRoundTripx4
import Derived.Test.YteamkjphdiajeaaM03
set_option linter.unusedVariables false
namespace Go.Proofs.Yteamkjphdiajeaa.QFrontcodeRoundTrip
open Go Go.RowKit Go.Proofs.YteamkjphdiajeaaW.PrintWords Go.Proofs.YteamkjphdiajeaaM
def laminalaw11_FrontcodeRoundTrip.Pure : Prop := ∀ (l0 : List Int) (l1 : List ByteArray) (l2 : List Int), (l0.length ≤ maxLen ∧ ∀ y0 ∈ l0, (Lit.int .u8 y0).wf = true) → l0.length * 1 ≤ 140737488351232 → (l1.length ≤ maxLen ∧ ∀ y0 ∈ l1, y0.size ≤ maxLen) → (l2.length ≤ maxLen ∧ ∀ y0 ∈ l2, (Lit.int .u8 y0).wf = true) → l2.length * 1 ≤ 140737488351232 → ∃ k, laminalaw11_FrontcodeRoundTrip.f k l0 l1 l2 = some true
end Go.Proofs.Yteamkjphdiajeaa.QFrontcodeRoundTrip
