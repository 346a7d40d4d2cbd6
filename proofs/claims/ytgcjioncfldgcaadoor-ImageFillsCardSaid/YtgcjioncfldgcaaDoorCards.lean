/-
  DERIVED. GIVEN WITH THE SEED: THE CARDS: each row of YtgcjioncfldgcaaDoorRows.lean that lists a variable, with what it lists TIED to the program's text (the seventh form; the later family's looks); each row that meets fmt, with fmt's text TOLD by the authors' own Lean function (tested against real Go, not proved from fmt's source: count such statements apart). THE CARD IS WHAT COUNTS. Prove the row's statement (the work); the ties are given (YtgcjioncfldgcaaDoorTie.lean); close each card by the builder's one call (the guide's Derived/Test/ToyasCard.lean, 'card_holds'). Laid BY PROGRAM, IN A SANDBOX (cutbox-door.mjs). By AI agents, Wed Nov 11 2026. No macro, syntax, notation, axiom, sorry.
-/
import Derived.Test.YtgcjioncfldgcaaDoorRows
import GoSem.ClaimSeven
namespace Go.Proofs.YtgcjioncfldgcaaDoor
namespace Rows

/-- THE TIED CARD OF 'pidginlaw02.ImagePlays'. -/
def imagePlaysCard : Claim7 := { stood := { row := imagePlaysRow, standIns := [], harness := (true, "b6a14c061faaa6aad3dfead52cf9b90ebb708b6fd8e2b90a08244b77041c7348"), looks := false }, kinds := [], alts := [], laidByText := true, laidKinds := [.data], laidTests := true, laidLooks := .later }
def ImagePlaysCardSaid : Prop := Claim7.holds Tryd.pinned (.plain (OpenSpec.ofChange imagePlaysSpec)) imagePlaysCard

/-- THE TIED CARD OF 'pidginlaw02.ImageFills'. -/
def imageFillsCard : Claim7 := { stood := { row := imageFillsRow, standIns := [], harness := (true, "b6a14c061faaa6aad3dfead52cf9b90ebb708b6fd8e2b90a08244b77041c7348"), looks := false }, kinds := [], alts := [], laidByText := true, laidKinds := [.data], laidTests := true, laidLooks := .later }
def ImageFillsCardSaid : Prop := Claim7.holds Tryd.pinned (.plain (OpenSpec.ofChange imageFillsSpec)) imageFillsCard

/-- THE SECOND FORM's CARD OF 'pidginlaw02.ImagePlays'. -/
def imagePlaysUptoCard : Claim7 := { stood := { row := imagePlaysUptoRow, standIns := [], harness := (true, "b6a14c061faaa6aad3dfead52cf9b90ebb708b6fd8e2b90a08244b77041c7348"), looks := false }, kinds := [], alts := [], laidByText := true, laidKinds := [.data], laidTests := true, laidLooks := .later }
def ImagePlaysUptoCardSaid : Prop := Claim7.holds Tryd.pinned (.plain (OpenSpec.upto imagePlaysSpec)) imagePlaysUptoCard

/-- THE SECOND FORM's CARD OF 'pidginlaw02.ImageFills'. -/
def imageFillsUptoCard : Claim7 := { stood := { row := imageFillsUptoRow, standIns := [], harness := (true, "b6a14c061faaa6aad3dfead52cf9b90ebb708b6fd8e2b90a08244b77041c7348"), looks := false }, kinds := [], alts := [], laidByText := true, laidKinds := [.data], laidTests := true, laidLooks := .later }
def ImageFillsUptoCardSaid : Prop := Claim7.holds Tryd.pinned (.plain (OpenSpec.upto imageFillsSpec)) imageFillsUptoCard
end Rows
end Go.Proofs.YtgcjioncfldgcaaDoor
