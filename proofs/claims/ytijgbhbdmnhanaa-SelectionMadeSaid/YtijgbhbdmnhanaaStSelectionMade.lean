/- The pure statement of SelectionMade, and what its parameters are known to be. -/
import Derived.Test.YtijgbhbdmnhanaaQSelectionMadex7
import Derived.Test.YtijgbhbdmnhanaaM03
set_option linter.unusedVariables false
namespace Go.Proofs.Ytijgbhbdmnhanaa.QSelectionMade
open Go Go.RowKit Go.Proofs.YtijgbhbdmnhanaaW.PrintWords Go.Proofs.YtijgbhbdmnhanaaM
def ok48 (x : S48) : Prop := ((Lit.int .i64 x.f0).wf = true) ∧ ((x.f1.length ≤ maxLen ∧ ∀ y0 ∈ x.f1, (Lit.int .i64 y0).wf = true)) ∧ ((x.f2.length ≤ maxLen ∧ ∀ y0 ∈ x.f2, y0.size ≤ maxLen)) ∧ ((x.f3.length ≤ maxLen ∧ ∀ y0 ∈ x.f3, True))
def laminalaw41_SelectionMade.Pure : Prop := ∀ (a0_0 : Int) (l0_1 : List Int) (l0_2 : List ByteArray) (l0_3 : List Bool) (l1 : List Int) (a2 : Int), ok48 (⟨a0_0, l0_1, l0_2, l0_3⟩ : S48) → (l1.length ≤ maxLen ∧ ∀ y0 ∈ l1, (Lit.int .i64 y0).wf = true) → l1.length * 8 ≤ 140737488351232 → (Lit.int .i64 a2).wf = true → ∃ k, laminalaw41_SelectionMade.f k a0_0 l0_1 l0_2 l0_3 l1 a2 = some true
end Go.Proofs.Ytijgbhbdmnhanaa.QSelectionMade
