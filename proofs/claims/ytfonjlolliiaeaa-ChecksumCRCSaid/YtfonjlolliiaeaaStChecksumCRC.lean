/- The pure statement of ChecksumCRC, and what its parameters are known to be. -/
import Derived.Test.YtfonjlolliiaeaaQChecksumCRCx3
import Derived.Test.YtfonjlolliiaeaaM03
set_option linter.unusedVariables false
namespace Go.Proofs.Ytfonjlolliiaeaa.QChecksumCRC
open Go Go.RowKit Go.Proofs.YtfonjlolliiaeaaW.PrintWords Go.Proofs.YtfonjlolliiaeaaM
def laminalaw02_ChecksumCRC.Pure : Prop := ∀ (l0 : List Int) (l1 : List Int) (a2 : Int), (l0.length ≤ maxLen ∧ ∀ y0 ∈ l0, (Lit.int .u8 y0).wf = true) → l0.length * 1 ≤ 140737488351232 → (l1.length ≤ maxLen ∧ ∀ y0 ∈ l1, (Lit.int .u8 y0).wf = true) → l1.length * 1 ≤ 140737488351232 → (Lit.int .u32 a2).wf = true → ∃ k, laminalaw02_ChecksumCRC.f k l0 l1 a2 = some true
end Go.Proofs.Ytfonjlolliiaeaa.QChecksumCRC
