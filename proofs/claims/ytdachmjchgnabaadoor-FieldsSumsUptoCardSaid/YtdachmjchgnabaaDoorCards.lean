/-
  DERIVED. GIVEN WITH THE SEED: THE CARDS: each row of YtdachmjchgnabaaDoorRows.lean that lists a variable, with what it lists TIED to the program's text (the seventh form; the later family's looks); each row that meets fmt, with fmt's text TOLD by the authors' own Lean function (tested against real Go, not proved from fmt's source: count such statements apart). THE CARD IS WHAT COUNTS. Prove the row's statement (the work); the ties are given (YtdachmjchgnabaaDoorTie.lean); close each card by the builder's one call (the guide's Derived/Test/ToyasCard.lean, 'card_holds'). Laid BY PROGRAM, IN A SANDBOX (cutbox-door.mjs). By AI agents, Wed Nov 11 2026. No macro, syntax, notation, axiom, sorry.
-/
import Derived.Test.YtdachmjchgnabaaDoorRows
import GoSem.ClaimSeven
namespace Go.Proofs.YtdachmjchgnabaaDoor
namespace Rows

/-- THE TIED CARD OF 'reservoirlaw5.FieldsRuns'. -/
def fieldsRunsCard : Claim7 := { stood := { row := fieldsRunsRow, standIns := [], harness := (true, "170b4aecb91eb8b8a9192b271e7f0abdf2e62a3ba44f2d696efcd675381ef302"), looks := false }, kinds := [], alts := [], laidByText := true, laidKinds := [.data, .pinned], laidTests := true, laidLooks := .later }
def FieldsRunsCardSaid : Prop := Claim7.holds Tryd.pinned (.plain (OpenSpec.ofChange fieldsRunsSpec)) fieldsRunsCard

/-- THE TIED CARD OF 'reservoirlaw5.FieldsTells'. -/
def fieldsTellsCard : Claim7 := { stood := { row := fieldsTellsRow, standIns := [], harness := (true, "170b4aecb91eb8b8a9192b271e7f0abdf2e62a3ba44f2d696efcd675381ef302"), looks := false }, kinds := [], alts := [], laidByText := true, laidKinds := [.data, .pinned], laidTests := true, laidLooks := .later }
def FieldsTellsCardSaid : Prop := Claim7.holds Tryd.pinned (.plain (OpenSpec.ofChange fieldsTellsSpec)) fieldsTellsCard

/-- THE TIED CARD OF 'reservoirlaw5.FieldsApart'. -/
def fieldsApartCard : Claim7 := { stood := { row := fieldsApartRow, standIns := [], harness := (true, "170b4aecb91eb8b8a9192b271e7f0abdf2e62a3ba44f2d696efcd675381ef302"), looks := false }, kinds := [], alts := [], laidByText := true, laidKinds := [.data, .pinned], laidTests := true, laidLooks := .later }
def FieldsApartCardSaid : Prop := Claim7.holds Tryd.pinned (.plain (OpenSpec.ofChange fieldsApartSpec)) fieldsApartCard

/-- THE TIED CARD OF 'reservoirlaw5.FieldsSums'. -/
def fieldsSumsCard : Claim7 := { stood := { row := fieldsSumsRow, standIns := [], harness := (true, "170b4aecb91eb8b8a9192b271e7f0abdf2e62a3ba44f2d696efcd675381ef302"), looks := false }, kinds := [], alts := [], laidByText := true, laidKinds := [.data, .pinned], laidTests := true, laidLooks := .later }
def FieldsSumsCardSaid : Prop := Claim7.holds Tryd.pinned (.plain (OpenSpec.ofChange fieldsSumsSpec)) fieldsSumsCard

/-- THE SECOND FORM's CARD OF 'reservoirlaw5.FieldsRuns'. -/
def fieldsRunsUptoCard : Claim7 := { stood := { row := fieldsRunsUptoRow, standIns := [], harness := (true, "170b4aecb91eb8b8a9192b271e7f0abdf2e62a3ba44f2d696efcd675381ef302"), looks := false }, kinds := [], alts := [], laidByText := true, laidKinds := [.data, .pinned], laidTests := true, laidLooks := .later }
def FieldsRunsUptoCardSaid : Prop := Claim7.holds Tryd.pinned (.plain (OpenSpec.upto fieldsRunsSpec)) fieldsRunsUptoCard

/-- THE SECOND FORM's CARD OF 'reservoirlaw5.FieldsTells'. -/
def fieldsTellsUptoCard : Claim7 := { stood := { row := fieldsTellsUptoRow, standIns := [], harness := (true, "170b4aecb91eb8b8a9192b271e7f0abdf2e62a3ba44f2d696efcd675381ef302"), looks := false }, kinds := [], alts := [], laidByText := true, laidKinds := [.data, .pinned], laidTests := true, laidLooks := .later }
def FieldsTellsUptoCardSaid : Prop := Claim7.holds Tryd.pinned (.plain (OpenSpec.upto fieldsTellsSpec)) fieldsTellsUptoCard

/-- THE SECOND FORM's CARD OF 'reservoirlaw5.FieldsApart'. -/
def fieldsApartUptoCard : Claim7 := { stood := { row := fieldsApartUptoRow, standIns := [], harness := (true, "170b4aecb91eb8b8a9192b271e7f0abdf2e62a3ba44f2d696efcd675381ef302"), looks := false }, kinds := [], alts := [], laidByText := true, laidKinds := [.data, .pinned], laidTests := true, laidLooks := .later }
def FieldsApartUptoCardSaid : Prop := Claim7.holds Tryd.pinned (.plain (OpenSpec.upto fieldsApartSpec)) fieldsApartUptoCard

/-- THE SECOND FORM's CARD OF 'reservoirlaw5.FieldsSums'. -/
def fieldsSumsUptoCard : Claim7 := { stood := { row := fieldsSumsUptoRow, standIns := [], harness := (true, "170b4aecb91eb8b8a9192b271e7f0abdf2e62a3ba44f2d696efcd675381ef302"), looks := false }, kinds := [], alts := [], laidByText := true, laidKinds := [.data, .pinned], laidTests := true, laidLooks := .later }
def FieldsSumsUptoCardSaid : Prop := Claim7.holds Tryd.pinned (.plain (OpenSpec.upto fieldsSumsSpec)) fieldsSumsUptoCard
end Rows
end Go.Proofs.YtdachmjchgnabaaDoor
