/-
  DERIVED. GIVEN WITH THE SEED: THE CARDS: each row of YtfonjlolliiaeaaDoorRows.lean that lists a variable, with what it lists TIED to the program's text (the seventh form; the later family's looks); each row that meets fmt, with fmt's text TOLD by the authors' own Lean function (tested against real Go, not proved from fmt's source: count such statements apart). THE CARD IS WHAT COUNTS. Prove the row's statement (the work); the ties are given (YtfonjlolliiaeaaDoorTie.lean); close each card by the builder's one call (the guide's Derived/Test/ToyasCard.lean, 'card_holds'). Laid BY PROGRAM, IN A SANDBOX (cutbox-door.mjs). By AI agents, Wed Nov 11 2026. No macro, syntax, notation, axiom, sorry.
-/
import Derived.Test.YtfonjlolliiaeaaDoorRows
import GoSem.ClaimSeven
namespace Go.Proofs.YtfonjlolliiaeaaDoor
namespace Rows

/-- THE TIED CARD OF 'laminalaw22.DelvecEncodes'. -/
def delvecEncodesCard : Claim7 := { stood := { row := delvecEncodesRow, standIns := [], harness := (true, "5d282dd3866542a919b95dab1c97d238b608cf8189512b6182b25dcd081647ac"), looks := false }, kinds := [], alts := [], laidByText := true, laidKinds := [.data], laidTests := true, laidLooks := .later }
def DelvecEncodesCardSaid : Prop := Claim7.holds Tryd.pinned (.plain (OpenSpec.ofChange delvecEncodesSpec)) delvecEncodesCard

/-- THE TIED CARD OF 'laminalaw22.DelvecDecodes'. -/
def delvecDecodesCard : Claim7 := { stood := { row := delvecDecodesRow, standIns := [], harness := (true, "5d282dd3866542a919b95dab1c97d238b608cf8189512b6182b25dcd081647ac"), looks := false }, kinds := [], alts := [], laidByText := true, laidKinds := [.data], laidTests := true, laidLooks := .later }
def DelvecDecodesCardSaid : Prop := Claim7.holds Tryd.pinned (.plain (OpenSpec.ofChange delvecDecodesSpec)) delvecDecodesCard

/-- THE TIED CARD OF 'laminalaw22.DelvecSets'. -/
def delvecSetsCard : Claim7 := { stood := { row := delvecSetsRow, standIns := [], harness := (true, "5d282dd3866542a919b95dab1c97d238b608cf8189512b6182b25dcd081647ac"), looks := false }, kinds := [], alts := [], laidByText := true, laidKinds := [.data], laidTests := true, laidLooks := .later }
def DelvecSetsCardSaid : Prop := Claim7.holds Tryd.pinned (.plain (OpenSpec.ofChange delvecSetsSpec)) delvecSetsCard

/-- THE TIED CARD OF 'laminalaw22.DelvecApplies'. -/
def delvecAppliesCard : Claim7 := { stood := { row := delvecAppliesRow, standIns := [], harness := (true, "5d282dd3866542a919b95dab1c97d238b608cf8189512b6182b25dcd081647ac"), looks := false }, kinds := [], alts := [], laidByText := true, laidKinds := [.data], laidTests := true, laidLooks := .later }
def DelvecAppliesCardSaid : Prop := Claim7.holds Tryd.pinned (.plain (OpenSpec.ofChange delvecAppliesSpec)) delvecAppliesCard

/-- THE SECOND FORM's CARD OF 'laminalaw22.DelvecEncodes'. -/
def delvecEncodesUptoCard : Claim7 := { stood := { row := delvecEncodesUptoRow, standIns := [], harness := (true, "5d282dd3866542a919b95dab1c97d238b608cf8189512b6182b25dcd081647ac"), looks := false }, kinds := [], alts := [], laidByText := true, laidKinds := [.data], laidTests := true, laidLooks := .later }
def DelvecEncodesUptoCardSaid : Prop := Claim7.holds Tryd.pinned (.plain (OpenSpec.upto delvecEncodesSpec)) delvecEncodesUptoCard

/-- THE SECOND FORM's CARD OF 'laminalaw22.DelvecDecodes'. -/
def delvecDecodesUptoCard : Claim7 := { stood := { row := delvecDecodesUptoRow, standIns := [], harness := (true, "5d282dd3866542a919b95dab1c97d238b608cf8189512b6182b25dcd081647ac"), looks := false }, kinds := [], alts := [], laidByText := true, laidKinds := [.data], laidTests := true, laidLooks := .later }
def DelvecDecodesUptoCardSaid : Prop := Claim7.holds Tryd.pinned (.plain (OpenSpec.upto delvecDecodesSpec)) delvecDecodesUptoCard

/-- THE SECOND FORM's CARD OF 'laminalaw22.DelvecSets'. -/
def delvecSetsUptoCard : Claim7 := { stood := { row := delvecSetsUptoRow, standIns := [], harness := (true, "5d282dd3866542a919b95dab1c97d238b608cf8189512b6182b25dcd081647ac"), looks := false }, kinds := [], alts := [], laidByText := true, laidKinds := [.data], laidTests := true, laidLooks := .later }
def DelvecSetsUptoCardSaid : Prop := Claim7.holds Tryd.pinned (.plain (OpenSpec.upto delvecSetsSpec)) delvecSetsUptoCard

/-- THE SECOND FORM's CARD OF 'laminalaw22.DelvecApplies'. -/
def delvecAppliesUptoCard : Claim7 := { stood := { row := delvecAppliesUptoRow, standIns := [], harness := (true, "5d282dd3866542a919b95dab1c97d238b608cf8189512b6182b25dcd081647ac"), looks := false }, kinds := [], alts := [], laidByText := true, laidKinds := [.data], laidTests := true, laidLooks := .later }
def DelvecAppliesUptoCardSaid : Prop := Claim7.holds Tryd.pinned (.plain (OpenSpec.upto delvecAppliesSpec)) delvecAppliesUptoCard
end Rows
end Go.Proofs.YtfonjlolliiaeaaDoor
