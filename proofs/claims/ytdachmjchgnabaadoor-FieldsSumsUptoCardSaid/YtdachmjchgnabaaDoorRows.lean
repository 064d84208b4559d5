/-
  NARROWER THAN 'FOR EVERY INPUT', by the rows' own cells (each row's printed sentence says how): FieldsRuns: laid · FieldsTells: laid · FieldsApart: laid · FieldsSums: laid.
  DERIVED. THE GIVEN ROWS OF THIS SEAT. 4 by the template 'for every input the law returns true; each argument reads behind the call as it read before'; 0 by the template 'total and deterministic' (their statements: YtdachmjchgnabaaDoorTotals.lean).
  GIVEN WITH THE SEED: the statements are not yours to turn. If you find one false, say at which input.
  Laid BY PROGRAM, IN A SANDBOX (cutbox-rows.mjs): the forced cells as the released guide's own fill.sh prints them over the translation 7968cb392fa445a3… (all of the seat's roots in one cut). By AI agents, Wed Nov 11 2026. No macro, syntax, notation, axiom, sorry.
-/
import Derived.Test.YtdachmjchgnabaaDoorChecked
import GoSem.PinnedTables
import GoSem.Claim
import GoSem.ClaimJoined
import GoSem.ClaimMapViews
import Derived.JoinedTies
import Derived.KernelRfl
namespace Go.Proofs.YtdachmjchgnabaaDoor
/- THE CELL 'sum', in the pinned program and in every row, IS THE sha256 OF THE DUMP (.gsa) THAT YtdachmjchgnabaaDoorProg.lean LOADS. Nothing in Lean hashes anything: it is a label: what it is worth is what the hold of that sum in a sandbox is worth. -/
noncomputable def Tryd.pinned : Pinned := { name := "ytdachmjchgnabaadoor", sum := "7968cb392fa445a368a37de9434f95f10aab74befc962ac4b5853d19c73a3d4f", checked := Tryd.checked }
namespace Rows
def none {H : Type} : Left H := { results := [], args := [] }

/- WHAT THE LISTED PACKAGE-LEVEL VARIABLES READ AS WHEN THE CALL BEGINS. Each datum BY PROGRAM (the guide's laid-datum.mjs) off the statement by which the dump's own 'gosem.cut.vars' lays the variable. In a bare row this is a premise. The card (YtdachmjchgnabaaDoorCards.lean) ties it to the program's text. -/
def laid_unicode_utf8_acceptRanges {H : Type} : DataW H := .agg [.agg [.lit (.int .u8 128), .lit (.int .u8 191)], .agg [.lit (.int .u8 160), .lit (.int .u8 191)], .agg [.lit (.int .u8 128), .lit (.int .u8 159)], .agg [.lit (.int .u8 144), .lit (.int .u8 191)], .agg [.lit (.int .u8 128), .lit (.int .u8 143)], .agg [.lit (.int .u8 0), .lit (.int .u8 0)], .agg [.lit (.int .u8 0), .lit (.int .u8 0)], .agg [.lit (.int .u8 0), .lit (.int .u8 0)], .agg [.lit (.int .u8 0), .lit (.int .u8 0)], .agg [.lit (.int .u8 0), .lit (.int .u8 0)], .agg [.lit (.int .u8 0), .lit (.int .u8 0)], .agg [.lit (.int .u8 0), .lit (.int .u8 0)], .agg [.lit (.int .u8 0), .lit (.int .u8 0)], .agg [.lit (.int .u8 0), .lit (.int .u8 0)], .agg [.lit (.int .u8 0), .lit (.int .u8 0)], .agg [.lit (.int .u8 0), .lit (.int .u8 0)]]
/-- One of Go's own tables, pinned by name: the form's constant. -/
def laid_unicode_utf8_first : DataW Unit := Go.Pinned.utf8First

/-- 'reservoirlaw5.FieldsRuns': WHATEVER THE INPUT: true; the input reads as it did. -/
def fieldsRunsSpec : ChangeSpec := { name := "fieldsRuns", fn := fun _ => fun
  | [] => { results := [.lit (.bool true)], args := [] }
  | _ => none }
def fieldsRunsRow : OpenClaim := { program := "ytdachmjchgnabaadoor", sum := "7968cb392fa445a368a37de9434f95f10aab74befc962ac4b5853d19c73a3d4f", func := "reservoir/reservoirlaw5.FieldsRuns", spec := "fieldsRuns", inPlace := ["internal/bytealg.CountString", "internal/bytealg.IndexByteString", "internal/bytealg.IndexString"], named := ["unicode/utf8.first", "unicode/utf8.acceptRanges", "internal/bytealg.MaxLen"], apart := false, laid := [("unicode/utf8.acceptRanges", laid_unicode_utf8_acceptRanges), ("unicode/utf8.first", laid_unicode_utf8_first)] }
def FieldsRunsSaid : Prop := fieldsRunsRow.holds Tryd.pinned (OpenSpec.ofChange fieldsRunsSpec)

/-- ITS FALSE NEIGHBOUR: 'it returns false'. Refute it at one input. -/
def fieldsRunsWrong : ChangeSpec := { name := "fieldsRuns", fn := fun _ => fun
  | [] => { results := [.lit (.bool false)], args := [] }
  | _ => none }
def FieldsRunsWrongFalsely : Prop := fieldsRunsRow.holds Tryd.pinned (OpenSpec.ofChange fieldsRunsWrong)

/-- 'reservoirlaw5.FieldsTells': WHATEVER THE INPUT: true; the input reads as it did. -/
def fieldsTellsSpec : ChangeSpec := { name := "fieldsTells", fn := fun _ => fun
  | [d1, d2] => { results := [.lit (.bool true)], args := [d1, d2] }
  | _ => none }
def fieldsTellsRow : OpenClaim := { program := "ytdachmjchgnabaadoor", sum := "7968cb392fa445a368a37de9434f95f10aab74befc962ac4b5853d19c73a3d4f", func := "reservoir/reservoirlaw5.FieldsTells", spec := "fieldsTells", inPlace := ["internal/bytealg.CountString", "internal/bytealg.IndexByteString", "internal/bytealg.IndexString"], named := ["unicode/utf8.first", "unicode/utf8.acceptRanges", "internal/bytealg.MaxLen"], apart := false, laid := [("unicode/utf8.acceptRanges", laid_unicode_utf8_acceptRanges), ("unicode/utf8.first", laid_unicode_utf8_first)] }
def FieldsTellsSaid : Prop := fieldsTellsRow.holds Tryd.pinned (OpenSpec.ofChange fieldsTellsSpec)

/-- ITS FALSE NEIGHBOUR: 'it returns false'. Refute it at one input. -/
def fieldsTellsWrong : ChangeSpec := { name := "fieldsTells", fn := fun _ => fun
  | [d1, d2] => { results := [.lit (.bool false)], args := [d1, d2] }
  | _ => none }
def FieldsTellsWrongFalsely : Prop := fieldsTellsRow.holds Tryd.pinned (OpenSpec.ofChange fieldsTellsWrong)

/-- 'reservoirlaw5.FieldsApart': WHATEVER THE INPUT: true; the input reads as it did. -/
def fieldsApartSpec : ChangeSpec := { name := "fieldsApart", fn := fun _ => fun
  | [d1, d2] => { results := [.lit (.bool true)], args := [d1, d2] }
  | _ => none }
def fieldsApartRow : OpenClaim := { program := "ytdachmjchgnabaadoor", sum := "7968cb392fa445a368a37de9434f95f10aab74befc962ac4b5853d19c73a3d4f", func := "reservoir/reservoirlaw5.FieldsApart", spec := "fieldsApart", inPlace := ["internal/bytealg.CountString", "internal/bytealg.IndexByteString", "internal/bytealg.IndexString"], named := ["unicode/utf8.first", "unicode/utf8.acceptRanges", "internal/bytealg.MaxLen"], apart := false, laid := [("unicode/utf8.acceptRanges", laid_unicode_utf8_acceptRanges), ("unicode/utf8.first", laid_unicode_utf8_first)] }
def FieldsApartSaid : Prop := fieldsApartRow.holds Tryd.pinned (OpenSpec.ofChange fieldsApartSpec)

/-- ITS FALSE NEIGHBOUR: 'it returns false'. Refute it at one input. -/
def fieldsApartWrong : ChangeSpec := { name := "fieldsApart", fn := fun _ => fun
  | [d1, d2] => { results := [.lit (.bool false)], args := [d1, d2] }
  | _ => none }
def FieldsApartWrongFalsely : Prop := fieldsApartRow.holds Tryd.pinned (OpenSpec.ofChange fieldsApartWrong)

/-- 'reservoirlaw5.FieldsSums': WHATEVER THE INPUT: true; the input reads as it did. -/
def fieldsSumsSpec : ChangeSpec := { name := "fieldsSums", fn := fun _ => fun
  | [d1, d2] => { results := [.lit (.bool true)], args := [d1, d2] }
  | _ => none }
def fieldsSumsRow : OpenClaim := { program := "ytdachmjchgnabaadoor", sum := "7968cb392fa445a368a37de9434f95f10aab74befc962ac4b5853d19c73a3d4f", func := "reservoir/reservoirlaw5.FieldsSums", spec := "fieldsSums", inPlace := ["internal/bytealg.CountString", "internal/bytealg.IndexByteString", "internal/bytealg.IndexString"], named := ["unicode/utf8.first", "unicode/utf8.acceptRanges", "internal/bytealg.MaxLen"], apart := false, laid := [("unicode/utf8.acceptRanges", laid_unicode_utf8_acceptRanges), ("unicode/utf8.first", laid_unicode_utf8_first)] }
def FieldsSumsSaid : Prop := fieldsSumsRow.holds Tryd.pinned (OpenSpec.ofChange fieldsSumsSpec)

/-- ITS FALSE NEIGHBOUR: 'it returns false'. Refute it at one input. -/
def fieldsSumsWrong : ChangeSpec := { name := "fieldsSums", fn := fun _ => fun
  | [d1, d2] => { results := [.lit (.bool false)], args := [d1, d2] }
  | _ => none }
def FieldsSumsWrongFalsely : Prop := fieldsSumsRow.holds Tryd.pinned (OpenSpec.ofChange fieldsSumsWrong)

/- THE SECOND FORM. 'bulk': how many values and letters a reading holds, each counted each time it is reached (what is shared counts as often as it is met; a slice's spare places count too). A statement '..UptoSaid' is the law's where the arguments, and the package variables that the reading takes, are together of bulk at most 1048576: NARROWER than '..Said'. Prove '..Said' where nothing that the law and all that it calls make is longer than what came in: it says more and counts as full. Else prove '..UptoSaid'. A law counts once. -/
mutual
def uptoBulk {H : Type} : DataW H → Nat
  | .lit (.string bytes) => bytes.length + 1
  | .lit _ => 1
  | .nil => 1
  | .ptr d => uptoBulk d + 1
  | .slice elems spare => uptoBulkAll elems + uptoBulkAll spare + 1
  | .agg parts => uptoBulkAll parts + 1
  | .iface _ d => uptoBulk d + 1
  | .map entries => uptoBulkEntries entries + 1
  | .held _ => 1
def uptoBulkAll {H : Type} : List (DataW H) → Nat
  | [] => 0
  | d :: r => uptoBulk d + uptoBulkAll r
def uptoBulkEntries {H : Type} : List (Lit × DataW H) → Nat
  | [] => 0
  | x :: r => uptoBulkEntry x + uptoBulkEntries r
def uptoBulkEntry {H : Type} : Lit × DataW H → Nat
  | (.string bytes, d) => bytes.length + uptoBulk d + 1
  | (_, d) => uptoBulk d + 1
 end
def uptoSmall : (H : Type) → List (DataW H) → Bool := fun _ ds => decide (uptoBulkAll ds ≤ 1048576)
def OpenSpec.upto (s : _root_.Go.ChangeSpec) : _root_.Go.OpenSpec := { _root_.Go.OpenSpec.ofChange s with cond := some uptoSmall }

/-- 'reservoirlaw5.FieldsRuns', WHERE WHAT IT READS IS OF BULK AT MOST 1048576: true; the input reads as it did. -/
def fieldsRunsUptoRow : OpenClaim := { program := "ytdachmjchgnabaadoor", sum := "7968cb392fa445a368a37de9434f95f10aab74befc962ac4b5853d19c73a3d4f", func := "reservoir/reservoirlaw5.FieldsRuns", spec := "fieldsRuns", inPlace := ["internal/bytealg.CountString", "internal/bytealg.IndexByteString", "internal/bytealg.IndexString"], named := ["unicode/utf8.first", "unicode/utf8.acceptRanges", "internal/bytealg.MaxLen"], apart := false, laid := [("unicode/utf8.acceptRanges", laid_unicode_utf8_acceptRanges), ("unicode/utf8.first", laid_unicode_utf8_first)], narrowed := true }
def FieldsRunsUptoSaid : Prop := fieldsRunsUptoRow.holds Tryd.pinned (OpenSpec.upto fieldsRunsSpec)

/-- 'reservoirlaw5.FieldsTells', WHERE WHAT IT READS IS OF BULK AT MOST 1048576: true; the input reads as it did. -/
def fieldsTellsUptoRow : OpenClaim := { program := "ytdachmjchgnabaadoor", sum := "7968cb392fa445a368a37de9434f95f10aab74befc962ac4b5853d19c73a3d4f", func := "reservoir/reservoirlaw5.FieldsTells", spec := "fieldsTells", inPlace := ["internal/bytealg.CountString", "internal/bytealg.IndexByteString", "internal/bytealg.IndexString"], named := ["unicode/utf8.first", "unicode/utf8.acceptRanges", "internal/bytealg.MaxLen"], apart := false, laid := [("unicode/utf8.acceptRanges", laid_unicode_utf8_acceptRanges), ("unicode/utf8.first", laid_unicode_utf8_first)], narrowed := true }
def FieldsTellsUptoSaid : Prop := fieldsTellsUptoRow.holds Tryd.pinned (OpenSpec.upto fieldsTellsSpec)

/-- 'reservoirlaw5.FieldsApart', WHERE WHAT IT READS IS OF BULK AT MOST 1048576: true; the input reads as it did. -/
def fieldsApartUptoRow : OpenClaim := { program := "ytdachmjchgnabaadoor", sum := "7968cb392fa445a368a37de9434f95f10aab74befc962ac4b5853d19c73a3d4f", func := "reservoir/reservoirlaw5.FieldsApart", spec := "fieldsApart", inPlace := ["internal/bytealg.CountString", "internal/bytealg.IndexByteString", "internal/bytealg.IndexString"], named := ["unicode/utf8.first", "unicode/utf8.acceptRanges", "internal/bytealg.MaxLen"], apart := false, laid := [("unicode/utf8.acceptRanges", laid_unicode_utf8_acceptRanges), ("unicode/utf8.first", laid_unicode_utf8_first)], narrowed := true }
def FieldsApartUptoSaid : Prop := fieldsApartUptoRow.holds Tryd.pinned (OpenSpec.upto fieldsApartSpec)

/-- 'reservoirlaw5.FieldsSums', WHERE WHAT IT READS IS OF BULK AT MOST 1048576: true; the input reads as it did. -/
def fieldsSumsUptoRow : OpenClaim := { program := "ytdachmjchgnabaadoor", sum := "7968cb392fa445a368a37de9434f95f10aab74befc962ac4b5853d19c73a3d4f", func := "reservoir/reservoirlaw5.FieldsSums", spec := "fieldsSums", inPlace := ["internal/bytealg.CountString", "internal/bytealg.IndexByteString", "internal/bytealg.IndexString"], named := ["unicode/utf8.first", "unicode/utf8.acceptRanges", "internal/bytealg.MaxLen"], apart := false, laid := [("unicode/utf8.acceptRanges", laid_unicode_utf8_acceptRanges), ("unicode/utf8.first", laid_unicode_utf8_first)], narrowed := true }
def FieldsSumsUptoSaid : Prop := fieldsSumsUptoRow.holds Tryd.pinned (OpenSpec.upto fieldsSumsSpec)

end Rows
end Go.Proofs.YtdachmjchgnabaaDoor
