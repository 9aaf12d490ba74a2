/- The pure statement of FrontcodeEncode, and what its parameters are known to be. -/
import Derived.Test.YteamkjphdiajeaaQFrontcodeEncodex4
import Derived.Test.YteamkjphdiajeaaM03
set_option linter.unusedVariables false
namespace Go.Proofs.Yteamkjphdiajeaa.QFrontcodeEncode
open Go Go.RowKit Go.Proofs.YteamkjphdiajeaaW.PrintWords Go.Proofs.YteamkjphdiajeaaM
def laminalaw11_FrontcodeEncode.Pure : Prop := ∀ (l0 : List ByteArray) (a1 : ByteArray) (a2 : ByteArray), (l0.length ≤ maxLen ∧ ∀ y0 ∈ l0, y0.size ≤ maxLen) → a1.size ≤ maxLen → a1.size * 1 ≤ 140737488351232 → a2.size ≤ maxLen → a2.size * 1 ≤ 140737488351232 → ∃ k, laminalaw11_FrontcodeEncode.f k l0 a1 a2 = some true
end Go.Proofs.Yteamkjphdiajeaa.QFrontcodeEncode
