/-
  DERIVED. GIVEN WITH THE SEED: THE CARDS: each row of YtoeeackjlclneaaGreatDoorRows.lean that lists a variable, with what it lists TIED to the program's text (the seventh form; the later family's looks); each row that meets fmt, with fmt's text TOLD by the authors' own Lean function (tested against real Go, not proved from fmt's source: count such statements apart). THE CARD IS WHAT COUNTS. Prove the row's statement (the work); the ties are given (YtoeeackjlclneaaGreatDoorTie.lean); close each card by the builder's one call (the guide's Derived/Test/ToyasCard.lean, 'card_holds'). Laid BY PROGRAM, IN A SANDBOX (cutbox-door.mjs). By AI agents, Wed Nov 11 2026. No macro, syntax, notation, axiom, sorry.
-/
import Derived.Test.YtoeeackjlclneaaGreatDoorRows
import GoSem.ClaimSeven
namespace Go.Proofs.YtoeeackjlclneaaGreatDoor
namespace Rows

/-- THE TIED CARD OF 'reservoirtop.TopClears'. -/
def topClearsCard : Claim7 := { stood := { row := topClearsRow, standIns := [], harness := (true, "39b943790e3747813ed70c4cae963a803bb2fb3091a4fa925e3482dfd5abe671"), looks := true }, kinds := [], alts := [], laidByText := true, laidKinds := [.data, .data, .data, .data, .pinned], laidTests := true, laidLooks := .later }
def TopClearsCardSaid : Prop := Claim7.holds Tryz.pinned (.plain (OpenSpec.ofChange topClearsSpec)) topClearsCard

/-- THE TIED CARD OF 'reservoirtop.TopCollapses'. -/
def topCollapsesCard : Claim7 := { stood := { row := topCollapsesRow, standIns := [], harness := (true, "39b943790e3747813ed70c4cae963a803bb2fb3091a4fa925e3482dfd5abe671"), looks := true }, kinds := [], alts := [], laidByText := true, laidKinds := [.data, .data, .data, .data, .pinned], laidTests := true, laidLooks := .later }
def TopCollapsesCardSaid : Prop := Claim7.holds Tryz.pinned (.plain (OpenSpec.ofChange topCollapsesSpec)) topCollapsesCard

/-- THE TIED CARD OF 'reservoirtop.TopCaps'. -/
def topCapsCard : Claim7 := { stood := { row := topCapsRow, standIns := [], harness := (true, "39b943790e3747813ed70c4cae963a803bb2fb3091a4fa925e3482dfd5abe671"), looks := true }, kinds := [], alts := [], laidByText := true, laidKinds := [.data, .data, .data, .data, .pinned], laidTests := true, laidLooks := .later }
def TopCapsCardSaid : Prop := Claim7.holds Tryz.pinned (.plain (OpenSpec.ofChange topCapsSpec)) topCapsCard

/-- THE TIED CARD OF 'reservoirtop.TopMany'. -/
def topManyCard : Claim7 := { stood := { row := topManyRow, standIns := [], harness := (true, "39b943790e3747813ed70c4cae963a803bb2fb3091a4fa925e3482dfd5abe671"), looks := true }, kinds := [], alts := [], laidByText := true, laidKinds := [.data, .data, .data, .data, .pinned], laidTests := true, laidLooks := .later }
def TopManyCardSaid : Prop := Claim7.holds Tryz.pinned (.plain (OpenSpec.ofChange topManySpec)) topManyCard

/-- THE TIED CARD OF 'reservoirtop.TopOwn'. -/
def topOwnCard : Claim7 := { stood := { row := topOwnRow, standIns := [], harness := (true, "39b943790e3747813ed70c4cae963a803bb2fb3091a4fa925e3482dfd5abe671"), looks := true }, kinds := [], alts := [], laidByText := true, laidKinds := [.data, .data, .data, .data, .pinned], laidTests := true, laidLooks := .later }
def TopOwnCardSaid : Prop := Claim7.holds Tryz.pinned (.plain (OpenSpec.ofChange topOwnSpec)) topOwnCard

/-- THE SECOND FORM's CARD OF 'reservoirtop.TopClears'. -/
def topClearsUptoCard : Claim7 := { stood := { row := topClearsUptoRow, standIns := [], harness := (true, "39b943790e3747813ed70c4cae963a803bb2fb3091a4fa925e3482dfd5abe671"), looks := true }, kinds := [], alts := [], laidByText := true, laidKinds := [.data, .data, .data, .data, .pinned], laidTests := true, laidLooks := .later }
def TopClearsUptoCardSaid : Prop := Claim7.holds Tryz.pinned (.plain (OpenSpec.upto topClearsSpec)) topClearsUptoCard

/-- THE SECOND FORM's CARD OF 'reservoirtop.TopCollapses'. -/
def topCollapsesUptoCard : Claim7 := { stood := { row := topCollapsesUptoRow, standIns := [], harness := (true, "39b943790e3747813ed70c4cae963a803bb2fb3091a4fa925e3482dfd5abe671"), looks := true }, kinds := [], alts := [], laidByText := true, laidKinds := [.data, .data, .data, .data, .pinned], laidTests := true, laidLooks := .later }
def TopCollapsesUptoCardSaid : Prop := Claim7.holds Tryz.pinned (.plain (OpenSpec.upto topCollapsesSpec)) topCollapsesUptoCard

/-- THE SECOND FORM's CARD OF 'reservoirtop.TopCaps'. -/
def topCapsUptoCard : Claim7 := { stood := { row := topCapsUptoRow, standIns := [], harness := (true, "39b943790e3747813ed70c4cae963a803bb2fb3091a4fa925e3482dfd5abe671"), looks := true }, kinds := [], alts := [], laidByText := true, laidKinds := [.data, .data, .data, .data, .pinned], laidTests := true, laidLooks := .later }
def TopCapsUptoCardSaid : Prop := Claim7.holds Tryz.pinned (.plain (OpenSpec.upto topCapsSpec)) topCapsUptoCard

/-- THE SECOND FORM's CARD OF 'reservoirtop.TopMany'. -/
def topManyUptoCard : Claim7 := { stood := { row := topManyUptoRow, standIns := [], harness := (true, "39b943790e3747813ed70c4cae963a803bb2fb3091a4fa925e3482dfd5abe671"), looks := true }, kinds := [], alts := [], laidByText := true, laidKinds := [.data, .data, .data, .data, .pinned], laidTests := true, laidLooks := .later }
def TopManyUptoCardSaid : Prop := Claim7.holds Tryz.pinned (.plain (OpenSpec.upto topManySpec)) topManyUptoCard

/-- THE SECOND FORM's CARD OF 'reservoirtop.TopOwn'. -/
def topOwnUptoCard : Claim7 := { stood := { row := topOwnUptoRow, standIns := [], harness := (true, "39b943790e3747813ed70c4cae963a803bb2fb3091a4fa925e3482dfd5abe671"), looks := true }, kinds := [], alts := [], laidByText := true, laidKinds := [.data, .data, .data, .data, .pinned], laidTests := true, laidLooks := .later }
def TopOwnUptoCardSaid : Prop := Claim7.holds Tryz.pinned (.plain (OpenSpec.upto topOwnSpec)) topOwnUptoCard
end Rows
end Go.Proofs.YtoeeackjlclneaaGreatDoor
