/-
  DERIVED. GIVEN WITH THE SEED: THE CARDS: each row of YtijgbhbdmnhanaaDoorRows.lean that lists a variable, with what it lists TIED to the program's text (the seventh form; the later family's looks); each row that meets fmt, with fmt's text TOLD by the authors' own Lean function (tested against real Go, not proved from fmt's source: count such statements apart). THE CARD IS WHAT COUNTS. Prove the row's statement (the work); the ties are given (YtijgbhbdmnhanaaDoorTie.lean); close each card by the builder's one call (the guide's Derived/Test/ToyasCard.lean, 'card_holds'). Laid BY PROGRAM, IN A SANDBOX (cutbox-door.mjs). By AI agents, Wed Nov 11 2026. No macro, syntax, notation, axiom, sorry.
-/
import Derived.Test.YtijgbhbdmnhanaaDoorRows
import GoSem.ClaimSeven
namespace Go.Proofs.YtijgbhbdmnhanaaDoor
namespace Rows

/-- THE TIED CARD OF 'laminalaw41.SelectionBits'. -/
def selectionBitsCard : Claim7 := { stood := { row := selectionBitsRow, standIns := [], harness := (true, "11972ca9c3ef95517833d4e5916f14349cf8b0d71b7230955c263478392d1338"), looks := false }, kinds := [], alts := [], laidByText := true, laidKinds := [.data], laidTests := true, laidLooks := .later }
def SelectionBitsCardSaid : Prop := Claim7.holds Tryd.pinned (.plain (OpenSpec.ofChange selectionBitsSpec)) selectionBitsCard

/-- THE TIED CARD OF 'laminalaw41.SelectionAlgebra'. -/
def selectionAlgebraCard : Claim7 := { stood := { row := selectionAlgebraRow, standIns := [], harness := (true, "11972ca9c3ef95517833d4e5916f14349cf8b0d71b7230955c263478392d1338"), looks := false }, kinds := [], alts := [], laidByText := true, laidKinds := [.data], laidTests := true, laidLooks := .later }
def SelectionAlgebraCardSaid : Prop := Claim7.holds Tryd.pinned (.plain (OpenSpec.ofChange selectionAlgebraSpec)) selectionAlgebraCard

/-- THE TIED CARD OF 'laminalaw03.BitsetValid'. -/
def bitsetValidCard : Claim7 := { stood := { row := bitsetValidRow, standIns := [], harness := (true, "11972ca9c3ef95517833d4e5916f14349cf8b0d71b7230955c263478392d1338"), looks := false }, kinds := [], alts := [], laidByText := true, laidKinds := [.data], laidTests := true, laidLooks := .later }
def BitsetValidCardSaid : Prop := Claim7.holds Tryd.pinned (.plain (OpenSpec.ofChange bitsetValidSpec)) bitsetValidCard

/-- THE TIED CARD OF 'laminalaw03.BitsetCodec'. -/
def bitsetCodecCard : Claim7 := { stood := { row := bitsetCodecRow, standIns := [], harness := (true, "11972ca9c3ef95517833d4e5916f14349cf8b0d71b7230955c263478392d1338"), looks := false }, kinds := [], alts := [], laidByText := true, laidKinds := [.data], laidTests := true, laidLooks := .later }
def BitsetCodecCardSaid : Prop := Claim7.holds Tryd.pinned (.plain (OpenSpec.ofChange bitsetCodecSpec)) bitsetCodecCard

/-- THE TIED CARD OF 'laminalaw03.BitsetRankSelect'. -/
def bitsetRankSelectCard : Claim7 := { stood := { row := bitsetRankSelectRow, standIns := [], harness := (true, "11972ca9c3ef95517833d4e5916f14349cf8b0d71b7230955c263478392d1338"), looks := false }, kinds := [], alts := [], laidByText := true, laidKinds := [.data], laidTests := true, laidLooks := .later }
def BitsetRankSelectCardSaid : Prop := Claim7.holds Tryd.pinned (.plain (OpenSpec.ofChange bitsetRankSelectSpec)) bitsetRankSelectCard

/-- THE TIED CARD OF 'laminalaw03.BitsetRoundTrip'. -/
def bitsetRoundTripCard : Claim7 := { stood := { row := bitsetRoundTripRow, standIns := [], harness := (true, "11972ca9c3ef95517833d4e5916f14349cf8b0d71b7230955c263478392d1338"), looks := false }, kinds := [], alts := [], laidByText := true, laidKinds := [.data], laidTests := true, laidLooks := .later }
def BitsetRoundTripCardSaid : Prop := Claim7.holds Tryd.pinned (.plain (OpenSpec.ofChange bitsetRoundTripSpec)) bitsetRoundTripCard

/-- THE TIED CARD OF 'laminalaw03.BitsetElements'. -/
def bitsetElementsCard : Claim7 := { stood := { row := bitsetElementsRow, standIns := [], harness := (true, "11972ca9c3ef95517833d4e5916f14349cf8b0d71b7230955c263478392d1338"), looks := false }, kinds := [], alts := [], laidByText := true, laidKinds := [.data], laidTests := true, laidLooks := .later }
def BitsetElementsCardSaid : Prop := Claim7.holds Tryd.pinned (.plain (OpenSpec.ofChange bitsetElementsSpec)) bitsetElementsCard

/-- THE TIED CARD OF 'laminalaw03.BitsetOperations'. -/
def bitsetOperationsCard : Claim7 := { stood := { row := bitsetOperationsRow, standIns := [], harness := (true, "11972ca9c3ef95517833d4e5916f14349cf8b0d71b7230955c263478392d1338"), looks := false }, kinds := [], alts := [], laidByText := true, laidKinds := [.data], laidTests := true, laidLooks := .later }
def BitsetOperationsCardSaid : Prop := Claim7.holds Tryd.pinned (.plain (OpenSpec.ofChange bitsetOperationsSpec)) bitsetOperationsCard

/-- THE TIED CARD OF 'laminalaw03.BitsetAlgebra'. -/
def bitsetAlgebraCard : Claim7 := { stood := { row := bitsetAlgebraRow, standIns := [], harness := (true, "11972ca9c3ef95517833d4e5916f14349cf8b0d71b7230955c263478392d1338"), looks := false }, kinds := [], alts := [], laidByText := true, laidKinds := [.data], laidTests := true, laidLooks := .later }
def BitsetAlgebraCardSaid : Prop := Claim7.holds Tryd.pinned (.plain (OpenSpec.ofChange bitsetAlgebraSpec)) bitsetAlgebraCard

/-- THE SECOND FORM's CARD OF 'laminalaw41.SelectionBits'. -/
def selectionBitsUptoCard : Claim7 := { stood := { row := selectionBitsUptoRow, standIns := [], harness := (true, "11972ca9c3ef95517833d4e5916f14349cf8b0d71b7230955c263478392d1338"), looks := false }, kinds := [], alts := [], laidByText := true, laidKinds := [.data], laidTests := true, laidLooks := .later }
def SelectionBitsUptoCardSaid : Prop := Claim7.holds Tryd.pinned (.plain (OpenSpec.upto selectionBitsSpec)) selectionBitsUptoCard

/-- THE SECOND FORM's CARD OF 'laminalaw41.SelectionAlgebra'. -/
def selectionAlgebraUptoCard : Claim7 := { stood := { row := selectionAlgebraUptoRow, standIns := [], harness := (true, "11972ca9c3ef95517833d4e5916f14349cf8b0d71b7230955c263478392d1338"), looks := false }, kinds := [], alts := [], laidByText := true, laidKinds := [.data], laidTests := true, laidLooks := .later }
def SelectionAlgebraUptoCardSaid : Prop := Claim7.holds Tryd.pinned (.plain (OpenSpec.upto selectionAlgebraSpec)) selectionAlgebraUptoCard

/-- THE SECOND FORM's CARD OF 'laminalaw03.BitsetValid'. -/
def bitsetValidUptoCard : Claim7 := { stood := { row := bitsetValidUptoRow, standIns := [], harness := (true, "11972ca9c3ef95517833d4e5916f14349cf8b0d71b7230955c263478392d1338"), looks := false }, kinds := [], alts := [], laidByText := true, laidKinds := [.data], laidTests := true, laidLooks := .later }
def BitsetValidUptoCardSaid : Prop := Claim7.holds Tryd.pinned (.plain (OpenSpec.upto bitsetValidSpec)) bitsetValidUptoCard

/-- THE SECOND FORM's CARD OF 'laminalaw03.BitsetCodec'. -/
def bitsetCodecUptoCard : Claim7 := { stood := { row := bitsetCodecUptoRow, standIns := [], harness := (true, "11972ca9c3ef95517833d4e5916f14349cf8b0d71b7230955c263478392d1338"), looks := false }, kinds := [], alts := [], laidByText := true, laidKinds := [.data], laidTests := true, laidLooks := .later }
def BitsetCodecUptoCardSaid : Prop := Claim7.holds Tryd.pinned (.plain (OpenSpec.upto bitsetCodecSpec)) bitsetCodecUptoCard

/-- THE SECOND FORM's CARD OF 'laminalaw03.BitsetRankSelect'. -/
def bitsetRankSelectUptoCard : Claim7 := { stood := { row := bitsetRankSelectUptoRow, standIns := [], harness := (true, "11972ca9c3ef95517833d4e5916f14349cf8b0d71b7230955c263478392d1338"), looks := false }, kinds := [], alts := [], laidByText := true, laidKinds := [.data], laidTests := true, laidLooks := .later }
def BitsetRankSelectUptoCardSaid : Prop := Claim7.holds Tryd.pinned (.plain (OpenSpec.upto bitsetRankSelectSpec)) bitsetRankSelectUptoCard

/-- THE SECOND FORM's CARD OF 'laminalaw03.BitsetRoundTrip'. -/
def bitsetRoundTripUptoCard : Claim7 := { stood := { row := bitsetRoundTripUptoRow, standIns := [], harness := (true, "11972ca9c3ef95517833d4e5916f14349cf8b0d71b7230955c263478392d1338"), looks := false }, kinds := [], alts := [], laidByText := true, laidKinds := [.data], laidTests := true, laidLooks := .later }
def BitsetRoundTripUptoCardSaid : Prop := Claim7.holds Tryd.pinned (.plain (OpenSpec.upto bitsetRoundTripSpec)) bitsetRoundTripUptoCard

/-- THE SECOND FORM's CARD OF 'laminalaw03.BitsetElements'. -/
def bitsetElementsUptoCard : Claim7 := { stood := { row := bitsetElementsUptoRow, standIns := [], harness := (true, "11972ca9c3ef95517833d4e5916f14349cf8b0d71b7230955c263478392d1338"), looks := false }, kinds := [], alts := [], laidByText := true, laidKinds := [.data], laidTests := true, laidLooks := .later }
def BitsetElementsUptoCardSaid : Prop := Claim7.holds Tryd.pinned (.plain (OpenSpec.upto bitsetElementsSpec)) bitsetElementsUptoCard

/-- THE SECOND FORM's CARD OF 'laminalaw03.BitsetOperations'. -/
def bitsetOperationsUptoCard : Claim7 := { stood := { row := bitsetOperationsUptoRow, standIns := [], harness := (true, "11972ca9c3ef95517833d4e5916f14349cf8b0d71b7230955c263478392d1338"), looks := false }, kinds := [], alts := [], laidByText := true, laidKinds := [.data], laidTests := true, laidLooks := .later }
def BitsetOperationsUptoCardSaid : Prop := Claim7.holds Tryd.pinned (.plain (OpenSpec.upto bitsetOperationsSpec)) bitsetOperationsUptoCard

/-- THE SECOND FORM's CARD OF 'laminalaw03.BitsetAlgebra'. -/
def bitsetAlgebraUptoCard : Claim7 := { stood := { row := bitsetAlgebraUptoRow, standIns := [], harness := (true, "11972ca9c3ef95517833d4e5916f14349cf8b0d71b7230955c263478392d1338"), looks := false }, kinds := [], alts := [], laidByText := true, laidKinds := [.data], laidTests := true, laidLooks := .later }
def BitsetAlgebraUptoCardSaid : Prop := Claim7.holds Tryd.pinned (.plain (OpenSpec.upto bitsetAlgebraSpec)) bitsetAlgebraUptoCard
end Rows
end Go.Proofs.YtijgbhbdmnhanaaDoor
