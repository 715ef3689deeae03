/-
  DERIVED. GIVEN WITH THE SEED: THE CARDS: each row of YtdimjemgganegaaDoorRows.lean that lists a variable, with what it lists TIED to the program's text (the seventh form; the later family's looks); each row that meets fmt, with fmt's text TOLD by the authors' own Lean function (tested against real Go, not proved from fmt's source: count such statements apart). THE CARD IS WHAT COUNTS. Prove the row's statement (the work); the ties are given (YtdimjemgganegaaDoorTie.lean); close each card by the builder's one call (the guide's Derived/Test/ToyasCard.lean, 'card_holds'). Laid BY PROGRAM, IN A SANDBOX (cutbox-door.mjs). By AI agents, Wed Nov 11 2026. No macro, syntax, notation, axiom, sorry.
-/
import Derived.Test.YtdimjemgganegaaDoorRows
import GoSem.ClaimSeven
namespace Go.Proofs.YtdimjemgganegaaDoor
namespace Rows

/-- THE TIED CARD OF 'wagonwaylaw01.GridWalled'. -/
def gridWalledCard : Claim7 := { stood := { row := gridWalledRow, standIns := [], harness := (true, "a40730cc5554fa8301c298d5048e3d64c86e5776a7486f2b7ae566f30857b16e"), looks := false }, kinds := [], alts := [], laidByText := true, laidKinds := [.data], laidTests := true, laidLooks := .later }
def GridWalledCardSaid : Prop := Claim7.holds Tryd.pinned (.plain (OpenSpec.ofChange gridWalledSpec)) gridWalledCard

/-- THE TIED CARD OF 'wagonwaylaw01.GridTurned'. -/
def gridTurnedCard : Claim7 := { stood := { row := gridTurnedRow, standIns := [], harness := (true, "a40730cc5554fa8301c298d5048e3d64c86e5776a7486f2b7ae566f30857b16e"), looks := false }, kinds := [], alts := [], laidByText := true, laidKinds := [.data], laidTests := true, laidLooks := .later }
def GridTurnedCardSaid : Prop := Claim7.holds Tryd.pinned (.plain (OpenSpec.ofChange gridTurnedSpec)) gridTurnedCard

/-- THE TIED CARD OF 'wagonwaylaw01.GridEdges'. -/
def gridEdgesCard : Claim7 := { stood := { row := gridEdgesRow, standIns := [], harness := (true, "a40730cc5554fa8301c298d5048e3d64c86e5776a7486f2b7ae566f30857b16e"), looks := false }, kinds := [], alts := [], laidByText := true, laidKinds := [.data], laidTests := true, laidLooks := .later }
def GridEdgesCardSaid : Prop := Claim7.holds Tryd.pinned (.plain (OpenSpec.ofChange gridEdgesSpec)) gridEdgesCard

/-- THE TIED CARD OF 'wagonwaylaw01.GridBack'. -/
def gridBackCard : Claim7 := { stood := { row := gridBackRow, standIns := [], harness := (true, "a40730cc5554fa8301c298d5048e3d64c86e5776a7486f2b7ae566f30857b16e"), looks := false }, kinds := [], alts := [], laidByText := true, laidKinds := [.data], laidTests := true, laidLooks := .later }
def GridBackCardSaid : Prop := Claim7.holds Tryd.pinned (.plain (OpenSpec.ofChange gridBackSpec)) gridBackCard

/-- THE SECOND FORM's CARD OF 'wagonwaylaw01.GridWalled'. -/
def gridWalledUptoCard : Claim7 := { stood := { row := gridWalledUptoRow, standIns := [], harness := (true, "a40730cc5554fa8301c298d5048e3d64c86e5776a7486f2b7ae566f30857b16e"), looks := false }, kinds := [], alts := [], laidByText := true, laidKinds := [.data], laidTests := true, laidLooks := .later }
def GridWalledUptoCardSaid : Prop := Claim7.holds Tryd.pinned (.plain (OpenSpec.upto gridWalledSpec)) gridWalledUptoCard

/-- THE SECOND FORM's CARD OF 'wagonwaylaw01.GridTurned'. -/
def gridTurnedUptoCard : Claim7 := { stood := { row := gridTurnedUptoRow, standIns := [], harness := (true, "a40730cc5554fa8301c298d5048e3d64c86e5776a7486f2b7ae566f30857b16e"), looks := false }, kinds := [], alts := [], laidByText := true, laidKinds := [.data], laidTests := true, laidLooks := .later }
def GridTurnedUptoCardSaid : Prop := Claim7.holds Tryd.pinned (.plain (OpenSpec.upto gridTurnedSpec)) gridTurnedUptoCard

/-- THE SECOND FORM's CARD OF 'wagonwaylaw01.GridEdges'. -/
def gridEdgesUptoCard : Claim7 := { stood := { row := gridEdgesUptoRow, standIns := [], harness := (true, "a40730cc5554fa8301c298d5048e3d64c86e5776a7486f2b7ae566f30857b16e"), looks := false }, kinds := [], alts := [], laidByText := true, laidKinds := [.data], laidTests := true, laidLooks := .later }
def GridEdgesUptoCardSaid : Prop := Claim7.holds Tryd.pinned (.plain (OpenSpec.upto gridEdgesSpec)) gridEdgesUptoCard

/-- THE SECOND FORM's CARD OF 'wagonwaylaw01.GridBack'. -/
def gridBackUptoCard : Claim7 := { stood := { row := gridBackUptoRow, standIns := [], harness := (true, "a40730cc5554fa8301c298d5048e3d64c86e5776a7486f2b7ae566f30857b16e"), looks := false }, kinds := [], alts := [], laidByText := true, laidKinds := [.data], laidTests := true, laidLooks := .later }
def GridBackUptoCardSaid : Prop := Claim7.holds Tryd.pinned (.plain (OpenSpec.upto gridBackSpec)) gridBackUptoCard
end Rows
end Go.Proofs.YtdimjemgganegaaDoor
