/-
  DERIVED. GIVEN WITH THE SEED: THE CARDS: each row of YtmlnboibclfmcaaDoorRows.lean that lists a variable, with what it lists TIED to the program's text (the seventh form; the later family's looks); each row that meets fmt, with fmt's text TOLD by the authors' own Lean function (tested against real Go, not proved from fmt's source: count such statements apart). THE CARD IS WHAT COUNTS. Prove the row's statement (the work); the ties are given (YtmlnboibclfmcaaDoorTie.lean); close each card by the builder's one call (the guide's Derived/Test/ToyasCard.lean, 'card_holds'). Laid BY PROGRAM, IN A SANDBOX (cutbox-door.mjs). By AI agents, Wed Nov 11 2026. No macro, syntax, notation, axiom, sorry.
-/
import Derived.Test.YtmlnboibclfmcaaDoorRows
import GoSem.ClaimSeven
namespace Go.Proofs.YtmlnboibclfmcaaDoor
namespace Rows

/-- THE TIED CARD OF 'reservoirlaw6.TableRuns'. -/
def tableRunsCard : Claim7 := { stood := { row := tableRunsRow, standIns := [], harness := (true, "66a62dbd293bd5ed6e1ed4996758275b8064cea8cd1dcf7de44ba8d2669e573e"), looks := true }, kinds := [], alts := [], laidByText := true, laidKinds := [.data, .pinned], laidTests := true, laidLooks := .later }
def TableRunsCardSaid : Prop := Claim7.holds Tryd.pinned (.plain (OpenSpec.ofChange tableRunsSpec)) tableRunsCard

/-- THE TIED CARD OF 'reservoirlaw6.TableFinds'. -/
def tableFindsCard : Claim7 := { stood := { row := tableFindsRow, standIns := [], harness := (true, "66a62dbd293bd5ed6e1ed4996758275b8064cea8cd1dcf7de44ba8d2669e573e"), looks := true }, kinds := [], alts := [], laidByText := true, laidKinds := [.data, .pinned], laidTests := true, laidLooks := .later }
def TableFindsCardSaid : Prop := Claim7.holds Tryd.pinned (.plain (OpenSpec.ofChange tableFindsSpec)) tableFindsCard

/-- THE TIED CARD OF 'reservoirlaw6.TablePlays'. -/
def tablePlaysCard : Claim7 := { stood := { row := tablePlaysRow, standIns := [], harness := (true, "66a62dbd293bd5ed6e1ed4996758275b8064cea8cd1dcf7de44ba8d2669e573e"), looks := true }, kinds := [], alts := [], laidByText := true, laidKinds := [.data, .pinned], laidTests := true, laidLooks := .later }
def TablePlaysCardSaid : Prop := Claim7.holds Tryd.pinned (.plain (OpenSpec.ofChange tablePlaysSpec)) tablePlaysCard

/-- THE TIED CARD OF 'reservoirlaw6.TableBounded'. -/
def tableBoundedCard : Claim7 := { stood := { row := tableBoundedRow, standIns := [], harness := (true, "66a62dbd293bd5ed6e1ed4996758275b8064cea8cd1dcf7de44ba8d2669e573e"), looks := true }, kinds := [], alts := [], laidByText := true, laidKinds := [.data, .pinned], laidTests := true, laidLooks := .later }
def TableBoundedCardSaid : Prop := Claim7.holds Tryd.pinned (.plain (OpenSpec.ofChange tableBoundedSpec)) tableBoundedCard

/-- THE TIED CARD OF 'reservoirlaw6.TableTwins'. -/
def tableTwinsCard : Claim7 := { stood := { row := tableTwinsRow, standIns := [], harness := (true, "66a62dbd293bd5ed6e1ed4996758275b8064cea8cd1dcf7de44ba8d2669e573e"), looks := true }, kinds := [], alts := [], laidByText := true, laidKinds := [.data, .pinned], laidTests := true, laidLooks := .later }
def TableTwinsCardSaid : Prop := Claim7.holds Tryd.pinned (.plain (OpenSpec.ofChange tableTwinsSpec)) tableTwinsCard

/-- THE TIED CARD OF 'reservoirlaw8.PackRuns'. -/
def packRunsCard : Claim7 := { stood := { row := packRunsRow, standIns := [], harness := (true, "66a62dbd293bd5ed6e1ed4996758275b8064cea8cd1dcf7de44ba8d2669e573e"), looks := true }, kinds := [], alts := [], laidByText := true, laidKinds := [.data, .pinned], laidTests := true, laidLooks := .later }
def PackRunsCardSaid : Prop := Claim7.holds Tryd.pinned (.plain (OpenSpec.ofChange packRunsSpec)) packRunsCard

/-- THE TIED CARD OF 'reservoirlaw8.PackPlays'. -/
def packPlaysCard : Claim7 := { stood := { row := packPlaysRow, standIns := [], harness := (true, "66a62dbd293bd5ed6e1ed4996758275b8064cea8cd1dcf7de44ba8d2669e573e"), looks := true }, kinds := [], alts := [], laidByText := true, laidKinds := [.data, .pinned], laidTests := true, laidLooks := .later }
def PackPlaysCardSaid : Prop := Claim7.holds Tryd.pinned (.plain (OpenSpec.ofChange packPlaysSpec)) packPlaysCard

/-- THE TIED CARD OF 'reservoirlaw8.PackShorter'. -/
def packShorterCard : Claim7 := { stood := { row := packShorterRow, standIns := [], harness := (true, "66a62dbd293bd5ed6e1ed4996758275b8064cea8cd1dcf7de44ba8d2669e573e"), looks := true }, kinds := [], alts := [], laidByText := true, laidKinds := [.data, .pinned], laidTests := true, laidLooks := .later }
def PackShorterCardSaid : Prop := Claim7.holds Tryd.pinned (.plain (OpenSpec.ofChange packShorterSpec)) packShorterCard

/-- THE TIED CARD OF 'reservoirlaw8.PackSecret'. -/
def packSecretCard : Claim7 := { stood := { row := packSecretRow, standIns := [], harness := (true, "66a62dbd293bd5ed6e1ed4996758275b8064cea8cd1dcf7de44ba8d2669e573e"), looks := true }, kinds := [], alts := [], laidByText := true, laidKinds := [.data, .pinned], laidTests := true, laidLooks := .later }
def PackSecretCardSaid : Prop := Claim7.holds Tryd.pinned (.plain (OpenSpec.ofChange packSecretSpec)) packSecretCard

/-- THE TIED CARD OF 'reservoirlaw8.PackBound'. -/
def packBoundCard : Claim7 := { stood := { row := packBoundRow, standIns := [], harness := (true, "66a62dbd293bd5ed6e1ed4996758275b8064cea8cd1dcf7de44ba8d2669e573e"), looks := true }, kinds := [], alts := [], laidByText := true, laidKinds := [.data, .pinned], laidTests := true, laidLooks := .later }
def PackBoundCardSaid : Prop := Claim7.holds Tryd.pinned (.plain (OpenSpec.ofChange packBoundSpec)) packBoundCard

/-- THE TIED CARD OF 'reservoirlaw7.UnpackRuns'. -/
def unpackRunsCard : Claim7 := { stood := { row := unpackRunsRow, standIns := [], harness := (true, "66a62dbd293bd5ed6e1ed4996758275b8064cea8cd1dcf7de44ba8d2669e573e"), looks := true }, kinds := [], alts := [], laidByText := true, laidKinds := [.data, .pinned], laidTests := true, laidLooks := .later }
def UnpackRunsCardSaid : Prop := Claim7.holds Tryd.pinned (.plain (OpenSpec.ofChange unpackRunsSpec)) unpackRunsCard

/-- THE TIED CARD OF 'reservoirlaw7.UnpackPlays'. -/
def unpackPlaysCard : Claim7 := { stood := { row := unpackPlaysRow, standIns := [], harness := (true, "66a62dbd293bd5ed6e1ed4996758275b8064cea8cd1dcf7de44ba8d2669e573e"), looks := true }, kinds := [], alts := [], laidByText := true, laidKinds := [.data, .pinned], laidTests := true, laidLooks := .later }
def UnpackPlaysCardSaid : Prop := Claim7.holds Tryd.pinned (.plain (OpenSpec.ofChange unpackPlaysSpec)) unpackPlaysCard

/-- THE TIED CARD OF 'reservoirlaw7.UnpackBounded'. -/
def unpackBoundedCard : Claim7 := { stood := { row := unpackBoundedRow, standIns := [], harness := (true, "66a62dbd293bd5ed6e1ed4996758275b8064cea8cd1dcf7de44ba8d2669e573e"), looks := true }, kinds := [], alts := [], laidByText := true, laidKinds := [.data, .pinned], laidTests := true, laidLooks := .later }
def UnpackBoundedCardSaid : Prop := Claim7.holds Tryd.pinned (.plain (OpenSpec.ofChange unpackBoundedSpec)) unpackBoundedCard

/-- THE TIED CARD OF 'reservoirlaw7.UnpackPlain'. -/
def unpackPlainCard : Claim7 := { stood := { row := unpackPlainRow, standIns := [], harness := (true, "66a62dbd293bd5ed6e1ed4996758275b8064cea8cd1dcf7de44ba8d2669e573e"), looks := true }, kinds := [], alts := [], laidByText := true, laidKinds := [.data, .pinned], laidTests := true, laidLooks := .later }
def UnpackPlainCardSaid : Prop := Claim7.holds Tryd.pinned (.plain (OpenSpec.ofChange unpackPlainSpec)) unpackPlainCard

/-- THE TIED CARD OF 'reservoirlaw8.PackBack'. -/
def packBackCard : Claim7 := { stood := { row := packBackRow, standIns := [], harness := (true, "66a62dbd293bd5ed6e1ed4996758275b8064cea8cd1dcf7de44ba8d2669e573e"), looks := true }, kinds := [], alts := [], laidByText := true, laidKinds := [.data, .pinned], laidTests := true, laidLooks := .later }
def PackBackCardSaid : Prop := Claim7.holds Tryd.pinned (.plain (OpenSpec.ofChange packBackSpec)) packBackCard

/-- THE SECOND FORM's CARD OF 'reservoirlaw6.TableRuns'. -/
def tableRunsUptoCard : Claim7 := { stood := { row := tableRunsUptoRow, standIns := [], harness := (true, "66a62dbd293bd5ed6e1ed4996758275b8064cea8cd1dcf7de44ba8d2669e573e"), looks := true }, kinds := [], alts := [], laidByText := true, laidKinds := [.data, .pinned], laidTests := true, laidLooks := .later }
def TableRunsUptoCardSaid : Prop := Claim7.holds Tryd.pinned (.plain (OpenSpec.upto tableRunsSpec)) tableRunsUptoCard

/-- THE SECOND FORM's CARD OF 'reservoirlaw6.TableFinds'. -/
def tableFindsUptoCard : Claim7 := { stood := { row := tableFindsUptoRow, standIns := [], harness := (true, "66a62dbd293bd5ed6e1ed4996758275b8064cea8cd1dcf7de44ba8d2669e573e"), looks := true }, kinds := [], alts := [], laidByText := true, laidKinds := [.data, .pinned], laidTests := true, laidLooks := .later }
def TableFindsUptoCardSaid : Prop := Claim7.holds Tryd.pinned (.plain (OpenSpec.upto tableFindsSpec)) tableFindsUptoCard

/-- THE SECOND FORM's CARD OF 'reservoirlaw6.TablePlays'. -/
def tablePlaysUptoCard : Claim7 := { stood := { row := tablePlaysUptoRow, standIns := [], harness := (true, "66a62dbd293bd5ed6e1ed4996758275b8064cea8cd1dcf7de44ba8d2669e573e"), looks := true }, kinds := [], alts := [], laidByText := true, laidKinds := [.data, .pinned], laidTests := true, laidLooks := .later }
def TablePlaysUptoCardSaid : Prop := Claim7.holds Tryd.pinned (.plain (OpenSpec.upto tablePlaysSpec)) tablePlaysUptoCard

/-- THE SECOND FORM's CARD OF 'reservoirlaw6.TableBounded'. -/
def tableBoundedUptoCard : Claim7 := { stood := { row := tableBoundedUptoRow, standIns := [], harness := (true, "66a62dbd293bd5ed6e1ed4996758275b8064cea8cd1dcf7de44ba8d2669e573e"), looks := true }, kinds := [], alts := [], laidByText := true, laidKinds := [.data, .pinned], laidTests := true, laidLooks := .later }
def TableBoundedUptoCardSaid : Prop := Claim7.holds Tryd.pinned (.plain (OpenSpec.upto tableBoundedSpec)) tableBoundedUptoCard

/-- THE SECOND FORM's CARD OF 'reservoirlaw6.TableTwins'. -/
def tableTwinsUptoCard : Claim7 := { stood := { row := tableTwinsUptoRow, standIns := [], harness := (true, "66a62dbd293bd5ed6e1ed4996758275b8064cea8cd1dcf7de44ba8d2669e573e"), looks := true }, kinds := [], alts := [], laidByText := true, laidKinds := [.data, .pinned], laidTests := true, laidLooks := .later }
def TableTwinsUptoCardSaid : Prop := Claim7.holds Tryd.pinned (.plain (OpenSpec.upto tableTwinsSpec)) tableTwinsUptoCard

/-- THE SECOND FORM's CARD OF 'reservoirlaw8.PackRuns'. -/
def packRunsUptoCard : Claim7 := { stood := { row := packRunsUptoRow, standIns := [], harness := (true, "66a62dbd293bd5ed6e1ed4996758275b8064cea8cd1dcf7de44ba8d2669e573e"), looks := true }, kinds := [], alts := [], laidByText := true, laidKinds := [.data, .pinned], laidTests := true, laidLooks := .later }
def PackRunsUptoCardSaid : Prop := Claim7.holds Tryd.pinned (.plain (OpenSpec.upto packRunsSpec)) packRunsUptoCard

/-- THE SECOND FORM's CARD OF 'reservoirlaw8.PackPlays'. -/
def packPlaysUptoCard : Claim7 := { stood := { row := packPlaysUptoRow, standIns := [], harness := (true, "66a62dbd293bd5ed6e1ed4996758275b8064cea8cd1dcf7de44ba8d2669e573e"), looks := true }, kinds := [], alts := [], laidByText := true, laidKinds := [.data, .pinned], laidTests := true, laidLooks := .later }
def PackPlaysUptoCardSaid : Prop := Claim7.holds Tryd.pinned (.plain (OpenSpec.upto packPlaysSpec)) packPlaysUptoCard

/-- THE SECOND FORM's CARD OF 'reservoirlaw8.PackShorter'. -/
def packShorterUptoCard : Claim7 := { stood := { row := packShorterUptoRow, standIns := [], harness := (true, "66a62dbd293bd5ed6e1ed4996758275b8064cea8cd1dcf7de44ba8d2669e573e"), looks := true }, kinds := [], alts := [], laidByText := true, laidKinds := [.data, .pinned], laidTests := true, laidLooks := .later }
def PackShorterUptoCardSaid : Prop := Claim7.holds Tryd.pinned (.plain (OpenSpec.upto packShorterSpec)) packShorterUptoCard

/-- THE SECOND FORM's CARD OF 'reservoirlaw8.PackSecret'. -/
def packSecretUptoCard : Claim7 := { stood := { row := packSecretUptoRow, standIns := [], harness := (true, "66a62dbd293bd5ed6e1ed4996758275b8064cea8cd1dcf7de44ba8d2669e573e"), looks := true }, kinds := [], alts := [], laidByText := true, laidKinds := [.data, .pinned], laidTests := true, laidLooks := .later }
def PackSecretUptoCardSaid : Prop := Claim7.holds Tryd.pinned (.plain (OpenSpec.upto packSecretSpec)) packSecretUptoCard

/-- THE SECOND FORM's CARD OF 'reservoirlaw8.PackBound'. -/
def packBoundUptoCard : Claim7 := { stood := { row := packBoundUptoRow, standIns := [], harness := (true, "66a62dbd293bd5ed6e1ed4996758275b8064cea8cd1dcf7de44ba8d2669e573e"), looks := true }, kinds := [], alts := [], laidByText := true, laidKinds := [.data, .pinned], laidTests := true, laidLooks := .later }
def PackBoundUptoCardSaid : Prop := Claim7.holds Tryd.pinned (.plain (OpenSpec.upto packBoundSpec)) packBoundUptoCard

/-- THE SECOND FORM's CARD OF 'reservoirlaw7.UnpackRuns'. -/
def unpackRunsUptoCard : Claim7 := { stood := { row := unpackRunsUptoRow, standIns := [], harness := (true, "66a62dbd293bd5ed6e1ed4996758275b8064cea8cd1dcf7de44ba8d2669e573e"), looks := true }, kinds := [], alts := [], laidByText := true, laidKinds := [.data, .pinned], laidTests := true, laidLooks := .later }
def UnpackRunsUptoCardSaid : Prop := Claim7.holds Tryd.pinned (.plain (OpenSpec.upto unpackRunsSpec)) unpackRunsUptoCard

/-- THE SECOND FORM's CARD OF 'reservoirlaw7.UnpackPlays'. -/
def unpackPlaysUptoCard : Claim7 := { stood := { row := unpackPlaysUptoRow, standIns := [], harness := (true, "66a62dbd293bd5ed6e1ed4996758275b8064cea8cd1dcf7de44ba8d2669e573e"), looks := true }, kinds := [], alts := [], laidByText := true, laidKinds := [.data, .pinned], laidTests := true, laidLooks := .later }
def UnpackPlaysUptoCardSaid : Prop := Claim7.holds Tryd.pinned (.plain (OpenSpec.upto unpackPlaysSpec)) unpackPlaysUptoCard

/-- THE SECOND FORM's CARD OF 'reservoirlaw7.UnpackBounded'. -/
def unpackBoundedUptoCard : Claim7 := { stood := { row := unpackBoundedUptoRow, standIns := [], harness := (true, "66a62dbd293bd5ed6e1ed4996758275b8064cea8cd1dcf7de44ba8d2669e573e"), looks := true }, kinds := [], alts := [], laidByText := true, laidKinds := [.data, .pinned], laidTests := true, laidLooks := .later }
def UnpackBoundedUptoCardSaid : Prop := Claim7.holds Tryd.pinned (.plain (OpenSpec.upto unpackBoundedSpec)) unpackBoundedUptoCard

/-- THE SECOND FORM's CARD OF 'reservoirlaw7.UnpackPlain'. -/
def unpackPlainUptoCard : Claim7 := { stood := { row := unpackPlainUptoRow, standIns := [], harness := (true, "66a62dbd293bd5ed6e1ed4996758275b8064cea8cd1dcf7de44ba8d2669e573e"), looks := true }, kinds := [], alts := [], laidByText := true, laidKinds := [.data, .pinned], laidTests := true, laidLooks := .later }
def UnpackPlainUptoCardSaid : Prop := Claim7.holds Tryd.pinned (.plain (OpenSpec.upto unpackPlainSpec)) unpackPlainUptoCard

/-- THE SECOND FORM's CARD OF 'reservoirlaw8.PackBack'. -/
def packBackUptoCard : Claim7 := { stood := { row := packBackUptoRow, standIns := [], harness := (true, "66a62dbd293bd5ed6e1ed4996758275b8064cea8cd1dcf7de44ba8d2669e573e"), looks := true }, kinds := [], alts := [], laidByText := true, laidKinds := [.data, .pinned], laidTests := true, laidLooks := .later }
def PackBackUptoCardSaid : Prop := Claim7.holds Tryd.pinned (.plain (OpenSpec.upto packBackSpec)) packBackUptoCard
end Rows
end Go.Proofs.YtmlnboibclfmcaaDoor
