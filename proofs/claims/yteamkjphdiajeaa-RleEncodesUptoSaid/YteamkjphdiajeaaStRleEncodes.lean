/- The pure statement of RleEncodes, and what its parameters are known to be. -/
import Derived.Test.YteamkjphdiajeaaQRleEncodesx5
import Derived.Test.YteamkjphdiajeaaM03
set_option linter.unusedVariables false
namespace Go.Proofs.Yteamkjphdiajeaa.QRleEncodes
open Go Go.RowKit Go.Proofs.YteamkjphdiajeaaW.PrintWords Go.Proofs.YteamkjphdiajeaaM
def ok77 (x : S77) : Prop := ((Lit.int .i64 x.f0).wf = true) ∧ ((Lit.int .i64 x.f1).wf = true)
def laminalaw07_RleEncodes.Pure : Prop := ∀ (l0 : List (S77)) (l1 : List Int) (l2 : List Int), (l0.length ≤ maxLen ∧ ∀ y0 ∈ l0, ok77 y0) → (l1.length ≤ maxLen ∧ ∀ y0 ∈ l1, (Lit.int .u8 y0).wf = true) → l1.length * 1 ≤ 140737488351232 → (l2.length ≤ maxLen ∧ ∀ y0 ∈ l2, (Lit.int .u8 y0).wf = true) → l2.length * 1 ≤ 140737488351232 → l1.length + l2.length ≤ 1048576 → ∃ k, laminalaw07_RleEncodes.f k l0 l1 l2 = some true
end Go.Proofs.Yteamkjphdiajeaa.QRleEncodes
