/- The pure statement of SelectionCompose, and what its parameters are known to be. -/
import Derived.Test.YtijgbhbdmnhanaaQSelectionComposex11
import Derived.Test.YtijgbhbdmnhanaaUM03
set_option linter.unusedVariables false
namespace Go.Proofs.Ytijgbhbdmnhanaa.QSelectionCompose
open Go Go.RowKit Go.Proofs.YtijgbhbdmnhanaaW.PrintWords Go.Proofs.YtijgbhbdmnhanaaM
def ok48 (x : S48) : Prop := ((Lit.int .i64 x.f0).wf = true) ∧ ((x.f1.length ≤ maxLen ∧ ∀ y0 ∈ x.f1, (Lit.int .i64 y0).wf = true)) ∧ ((x.f2.length ≤ maxLen ∧ ∀ y0 ∈ x.f2, y0.size ≤ maxLen)) ∧ ((x.f3.length ≤ maxLen ∧ ∀ y0 ∈ x.f3, True))
def ok31 (x : S31) : Prop := ((x.f0.length ≤ maxLen ∧ ∀ y0 ∈ x.f0, ok48 y0)) ∧ ((Lit.int .i64 x.f1).wf = true) ∧ (True) ∧ ((x.f3.length ≤ maxLen ∧ ∀ y0 ∈ x.f3, (Lit.int .i64 y0).wf = true))
def laminalaw41_SelectionCompose.Pure : Prop := ∀ (l0_0 : List (S48)) (a0_1 : Int) (a0_2 : Bool) (l0_3 : List Int) (l1 : List Int) (l2 : List Int), ok31 (⟨l0_0, a0_1, a0_2, l0_3⟩ : S31) → (l1.length ≤ maxLen ∧ ∀ y0 ∈ l1, (Lit.int .i64 y0).wf = true) → l1.length * 8 ≤ 140737488351232 → (l2.length ≤ maxLen ∧ ∀ y0 ∈ l2, (Lit.int .i64 y0).wf = true) → l2.length * 8 ≤ 140737488351232 → ∃ k, laminalaw41_SelectionCompose.f k l0_0 a0_1 a0_2 l0_3 l1 l2 = some true
end Go.Proofs.Ytijgbhbdmnhanaa.QSelectionCompose
