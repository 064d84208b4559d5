/-
  DERIVED. GIVEN WITH THE SEED: THE CARDS: each row of YtahjoiphajkdcaaDoorRows.lean that lists a variable, with what it lists TIED to the program's text (the seventh form; the later family's looks); each row that meets fmt, with fmt's text TOLD by the authors' own Lean function (tested against real Go, not proved from fmt's source: count such statements apart). THE CARD IS WHAT COUNTS. Prove the row's statement (the work); the ties are given (YtahjoiphajkdcaaDoorTie.lean); close each card by the builder's one call (the guide's Derived/Test/ToyasCard.lean, 'card_holds'). Laid BY PROGRAM, IN A SANDBOX (cutbox-door.mjs). By AI agents, Wed Nov 11 2026. No macro, syntax, notation, axiom, sorry.
-/
import Derived.Test.YtahjoiphajkdcaaDoorRows
import GoSem.ClaimSeven
namespace Go.Proofs.YtahjoiphajkdcaaDoor
namespace Rows

/-- THE TIED CARD OF 'reservoirlaw5.FieldsTells'. -/
def fieldsTellsCard : Claim7 := { stood := { row := fieldsTellsRow, standIns := [], harness := (true, "51c15ec6aa4e0bff574a668a2c58cdcedb44faef5c442f57eff2fd985a623919"), looks := false }, kinds := [], alts := [], laidByText := true, laidKinds := [.data, .pinned], laidTests := true, laidLooks := .later }
def FieldsTellsCardSaid : Prop := Claim7.holds Tryd.pinned (.plain (OpenSpec.ofChange fieldsTellsSpec)) fieldsTellsCard

/-- THE SECOND FORM's CARD OF 'reservoirlaw5.FieldsTells'. -/
def fieldsTellsUptoCard : Claim7 := { stood := { row := fieldsTellsUptoRow, standIns := [], harness := (true, "51c15ec6aa4e0bff574a668a2c58cdcedb44faef5c442f57eff2fd985a623919"), looks := false }, kinds := [], alts := [], laidByText := true, laidKinds := [.data, .pinned], laidTests := true, laidLooks := .later }
def FieldsTellsUptoCardSaid : Prop := Claim7.holds Tryd.pinned (.plain (OpenSpec.upto fieldsTellsSpec)) fieldsTellsUptoCard
end Rows
end Go.Proofs.YtahjoiphajkdcaaDoor
