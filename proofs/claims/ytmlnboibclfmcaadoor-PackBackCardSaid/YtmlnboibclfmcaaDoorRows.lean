/-
  NARROWER THAN 'FOR EVERY INPUT', by the rows' own cells (each row's printed sentence says how): TableRuns: laid · TableFinds: laid · TablePlays: laid · TableBounded: laid · TableTwins: laid · PackRuns: laid · PackPlays: laid · PackShorter: laid · PackSecret: laid · PackBound: laid · UnpackRuns: laid · UnpackPlays: laid · UnpackBounded: laid · UnpackPlain: laid · PackBack: laid.
  DERIVED. THE GIVEN ROWS OF THIS SEAT. 15 by the template 'for every input the law returns true; each argument reads behind the call as it read before'; 0 by the template 'total and deterministic' (their statements: YtmlnboibclfmcaaDoorTotals.lean).
  GIVEN WITH THE SEED: the statements are not yours to turn. If you find one false, say at which input.
  Laid BY PROGRAM, IN A SANDBOX (cutbox-rows.mjs): the forced cells as the released guide's own fill.sh prints them over the translation c81c8b31404b1869… (all of the seat's roots in one cut). By AI agents, Wed Nov 11 2026. No macro, syntax, notation, axiom, sorry.
-/
import Derived.Test.YtmlnboibclfmcaaDoorChecked
import GoSem.PinnedTables
import GoSem.Claim
import GoSem.ClaimJoined
import GoSem.ClaimMapViews
import Derived.JoinedTies
import Derived.KernelRfl
namespace Go.Proofs.YtmlnboibclfmcaaDoor
/- THE CELL 'sum', in the pinned program and in every row, IS THE sha256 OF THE DUMP (.gsa) THAT YtmlnboibclfmcaaDoorProg.lean LOADS. Nothing in Lean hashes anything: it is a label: what it is worth is what the hold of that sum in a sandbox is worth. -/
noncomputable def Tryd.pinned : Pinned := { name := "ytmlnboibclfmcaadoor", sum := "c81c8b31404b186910849d8076ddfbea4df55ba566ee24f464ba01b7697a59c6", checked := Tryd.checked }
namespace Rows
def none {H : Type} : Left H := { results := [], args := [] }

/- WHAT THE LISTED PACKAGE-LEVEL VARIABLES READ AS WHEN THE CALL BEGINS. Each datum BY PROGRAM (the guide's laid-datum.mjs) off the statement by which the dump's own 'gosem.cut.vars' lays the variable. In a bare row this is a premise. The card (YtmlnboibclfmcaaDoorCards.lean) ties it to the program's text. -/
def laid_unicode_utf8_acceptRanges {H : Type} : DataW H := .agg [.agg [.lit (.int .u8 128), .lit (.int .u8 191)], .agg [.lit (.int .u8 160), .lit (.int .u8 191)], .agg [.lit (.int .u8 128), .lit (.int .u8 159)], .agg [.lit (.int .u8 144), .lit (.int .u8 191)], .agg [.lit (.int .u8 128), .lit (.int .u8 143)], .agg [.lit (.int .u8 0), .lit (.int .u8 0)], .agg [.lit (.int .u8 0), .lit (.int .u8 0)], .agg [.lit (.int .u8 0), .lit (.int .u8 0)], .agg [.lit (.int .u8 0), .lit (.int .u8 0)], .agg [.lit (.int .u8 0), .lit (.int .u8 0)], .agg [.lit (.int .u8 0), .lit (.int .u8 0)], .agg [.lit (.int .u8 0), .lit (.int .u8 0)], .agg [.lit (.int .u8 0), .lit (.int .u8 0)], .agg [.lit (.int .u8 0), .lit (.int .u8 0)], .agg [.lit (.int .u8 0), .lit (.int .u8 0)], .agg [.lit (.int .u8 0), .lit (.int .u8 0)]]
/-- One of Go's own tables, pinned by name: the form's constant. -/
def laid_unicode_utf8_first : DataW Unit := Go.Pinned.utf8First

/-- 'reservoirlaw6.TableRuns': WHATEVER THE INPUT: true; the input reads as it did. -/
def tableRunsSpec : ChangeSpec := { name := "tableRuns", fn := fun _ => fun
  | [] => { results := [.lit (.bool true)], args := [] }
  | _ => none }
def tableRunsRow : OpenClaim := { program := "ytmlnboibclfmcaadoor", sum := "c81c8b31404b186910849d8076ddfbea4df55ba566ee24f464ba01b7697a59c6", func := "reservoir/reservoirlaw6.TableRuns", spec := "tableRuns", inPlace := ["internal/bytealg.CountString", "internal/bytealg.IndexByteString", "internal/bytealg.IndexString", "slices.overlaps[reservoir/api.Field]"], named := ["unicode/utf8.first", "unicode/utf8.acceptRanges", "internal/bytealg.MaxLen"], apart := false, laid := [("unicode/utf8.acceptRanges", laid_unicode_utf8_acceptRanges), ("unicode/utf8.first", laid_unicode_utf8_first)] }
def TableRunsSaid : Prop := tableRunsRow.holds Tryd.pinned (OpenSpec.ofChange tableRunsSpec)

/-- ITS FALSE NEIGHBOUR: 'it returns false'. Refute it at one input. -/
def tableRunsWrong : ChangeSpec := { name := "tableRuns", fn := fun _ => fun
  | [] => { results := [.lit (.bool false)], args := [] }
  | _ => none }
def TableRunsWrongFalsely : Prop := tableRunsRow.holds Tryd.pinned (OpenSpec.ofChange tableRunsWrong)

/-- 'reservoirlaw6.TableFinds': WHATEVER THE INPUT: true; the input reads as it did. -/
def tableFindsSpec : ChangeSpec := { name := "tableFinds", fn := fun _ => fun
  | [d1, d2, d3] => { results := [.lit (.bool true)], args := [d1, d2, d3] }
  | _ => none }
def tableFindsRow : OpenClaim := { program := "ytmlnboibclfmcaadoor", sum := "c81c8b31404b186910849d8076ddfbea4df55ba566ee24f464ba01b7697a59c6", func := "reservoir/reservoirlaw6.TableFinds", spec := "tableFinds", inPlace := ["internal/bytealg.CountString", "internal/bytealg.IndexByteString", "internal/bytealg.IndexString", "slices.overlaps[reservoir/api.Field]"], named := ["unicode/utf8.first", "unicode/utf8.acceptRanges", "internal/bytealg.MaxLen"], apart := false, laid := [("unicode/utf8.acceptRanges", laid_unicode_utf8_acceptRanges), ("unicode/utf8.first", laid_unicode_utf8_first)] }
def TableFindsSaid : Prop := tableFindsRow.holds Tryd.pinned (OpenSpec.ofChange tableFindsSpec)

/-- ITS FALSE NEIGHBOUR: 'it returns false'. Refute it at one input. -/
def tableFindsWrong : ChangeSpec := { name := "tableFinds", fn := fun _ => fun
  | [d1, d2, d3] => { results := [.lit (.bool false)], args := [d1, d2, d3] }
  | _ => none }
def TableFindsWrongFalsely : Prop := tableFindsRow.holds Tryd.pinned (OpenSpec.ofChange tableFindsWrong)

/-- 'reservoirlaw6.TablePlays': WHATEVER THE INPUT: true; the input reads as it did. -/
def tablePlaysSpec : ChangeSpec := { name := "tablePlays", fn := fun _ => fun
  | [d1, d2] => { results := [.lit (.bool true)], args := [d1, d2] }
  | _ => none }
def tablePlaysRow : OpenClaim := { program := "ytmlnboibclfmcaadoor", sum := "c81c8b31404b186910849d8076ddfbea4df55ba566ee24f464ba01b7697a59c6", func := "reservoir/reservoirlaw6.TablePlays", spec := "tablePlays", inPlace := ["internal/bytealg.CountString", "internal/bytealg.IndexByteString", "internal/bytealg.IndexString", "slices.overlaps[reservoir/api.Field]"], named := ["unicode/utf8.first", "unicode/utf8.acceptRanges", "internal/bytealg.MaxLen"], apart := false, laid := [("unicode/utf8.acceptRanges", laid_unicode_utf8_acceptRanges), ("unicode/utf8.first", laid_unicode_utf8_first)] }
def TablePlaysSaid : Prop := tablePlaysRow.holds Tryd.pinned (OpenSpec.ofChange tablePlaysSpec)

/-- ITS FALSE NEIGHBOUR: 'it returns false'. Refute it at one input. -/
def tablePlaysWrong : ChangeSpec := { name := "tablePlays", fn := fun _ => fun
  | [d1, d2] => { results := [.lit (.bool false)], args := [d1, d2] }
  | _ => none }
def TablePlaysWrongFalsely : Prop := tablePlaysRow.holds Tryd.pinned (OpenSpec.ofChange tablePlaysWrong)

/-- 'reservoirlaw6.TableBounded': WHATEVER THE INPUT: true; the input reads as it did. -/
def tableBoundedSpec : ChangeSpec := { name := "tableBounded", fn := fun _ => fun
  | [d1, d2] => { results := [.lit (.bool true)], args := [d1, d2] }
  | _ => none }
def tableBoundedRow : OpenClaim := { program := "ytmlnboibclfmcaadoor", sum := "c81c8b31404b186910849d8076ddfbea4df55ba566ee24f464ba01b7697a59c6", func := "reservoir/reservoirlaw6.TableBounded", spec := "tableBounded", inPlace := ["internal/bytealg.CountString", "internal/bytealg.IndexByteString", "internal/bytealg.IndexString", "slices.overlaps[reservoir/api.Field]"], named := ["unicode/utf8.first", "unicode/utf8.acceptRanges", "internal/bytealg.MaxLen"], apart := false, laid := [("unicode/utf8.acceptRanges", laid_unicode_utf8_acceptRanges), ("unicode/utf8.first", laid_unicode_utf8_first)] }
def TableBoundedSaid : Prop := tableBoundedRow.holds Tryd.pinned (OpenSpec.ofChange tableBoundedSpec)

/-- ITS FALSE NEIGHBOUR: 'it returns false'. Refute it at one input. -/
def tableBoundedWrong : ChangeSpec := { name := "tableBounded", fn := fun _ => fun
  | [d1, d2] => { results := [.lit (.bool false)], args := [d1, d2] }
  | _ => none }
def TableBoundedWrongFalsely : Prop := tableBoundedRow.holds Tryd.pinned (OpenSpec.ofChange tableBoundedWrong)

/-- 'reservoirlaw6.TableTwins': WHATEVER THE INPUT: true; the input reads as it did. -/
def tableTwinsSpec : ChangeSpec := { name := "tableTwins", fn := fun _ => fun
  | [d1, d2] => { results := [.lit (.bool true)], args := [d1, d2] }
  | _ => none }
def tableTwinsRow : OpenClaim := { program := "ytmlnboibclfmcaadoor", sum := "c81c8b31404b186910849d8076ddfbea4df55ba566ee24f464ba01b7697a59c6", func := "reservoir/reservoirlaw6.TableTwins", spec := "tableTwins", inPlace := ["internal/bytealg.CountString", "internal/bytealg.IndexByteString", "internal/bytealg.IndexString", "slices.overlaps[reservoir/api.Field]"], named := ["unicode/utf8.first", "unicode/utf8.acceptRanges", "internal/bytealg.MaxLen"], apart := false, laid := [("unicode/utf8.acceptRanges", laid_unicode_utf8_acceptRanges), ("unicode/utf8.first", laid_unicode_utf8_first)] }
def TableTwinsSaid : Prop := tableTwinsRow.holds Tryd.pinned (OpenSpec.ofChange tableTwinsSpec)

/-- ITS FALSE NEIGHBOUR: 'it returns false'. Refute it at one input. -/
def tableTwinsWrong : ChangeSpec := { name := "tableTwins", fn := fun _ => fun
  | [d1, d2] => { results := [.lit (.bool false)], args := [d1, d2] }
  | _ => none }
def TableTwinsWrongFalsely : Prop := tableTwinsRow.holds Tryd.pinned (OpenSpec.ofChange tableTwinsWrong)

/-- 'reservoirlaw8.PackRuns': WHATEVER THE INPUT: true; the input reads as it did. -/
def packRunsSpec : ChangeSpec := { name := "packRuns", fn := fun _ => fun
  | [] => { results := [.lit (.bool true)], args := [] }
  | _ => none }
def packRunsRow : OpenClaim := { program := "ytmlnboibclfmcaadoor", sum := "c81c8b31404b186910849d8076ddfbea4df55ba566ee24f464ba01b7697a59c6", func := "reservoir/reservoirlaw8.PackRuns", spec := "packRuns", inPlace := ["internal/bytealg.CountString", "internal/bytealg.IndexByteString", "internal/bytealg.IndexString", "slices.overlaps[reservoir/api.Field]"], named := ["unicode/utf8.first", "unicode/utf8.acceptRanges", "internal/bytealg.MaxLen"], apart := false, laid := [("unicode/utf8.acceptRanges", laid_unicode_utf8_acceptRanges), ("unicode/utf8.first", laid_unicode_utf8_first)] }
def PackRunsSaid : Prop := packRunsRow.holds Tryd.pinned (OpenSpec.ofChange packRunsSpec)

/-- ITS FALSE NEIGHBOUR: 'it returns false'. Refute it at one input. -/
def packRunsWrong : ChangeSpec := { name := "packRuns", fn := fun _ => fun
  | [] => { results := [.lit (.bool false)], args := [] }
  | _ => none }
def PackRunsWrongFalsely : Prop := packRunsRow.holds Tryd.pinned (OpenSpec.ofChange packRunsWrong)

/-- 'reservoirlaw8.PackPlays': WHATEVER THE INPUT: true; the input reads as it did. -/
def packPlaysSpec : ChangeSpec := { name := "packPlays", fn := fun _ => fun
  | [d1, d2] => { results := [.lit (.bool true)], args := [d1, d2] }
  | _ => none }
def packPlaysRow : OpenClaim := { program := "ytmlnboibclfmcaadoor", sum := "c81c8b31404b186910849d8076ddfbea4df55ba566ee24f464ba01b7697a59c6", func := "reservoir/reservoirlaw8.PackPlays", spec := "packPlays", inPlace := ["internal/bytealg.CountString", "internal/bytealg.IndexByteString", "internal/bytealg.IndexString", "slices.overlaps[reservoir/api.Field]"], named := ["unicode/utf8.first", "unicode/utf8.acceptRanges", "internal/bytealg.MaxLen"], apart := false, laid := [("unicode/utf8.acceptRanges", laid_unicode_utf8_acceptRanges), ("unicode/utf8.first", laid_unicode_utf8_first)] }
def PackPlaysSaid : Prop := packPlaysRow.holds Tryd.pinned (OpenSpec.ofChange packPlaysSpec)

/-- ITS FALSE NEIGHBOUR: 'it returns false'. Refute it at one input. -/
def packPlaysWrong : ChangeSpec := { name := "packPlays", fn := fun _ => fun
  | [d1, d2] => { results := [.lit (.bool false)], args := [d1, d2] }
  | _ => none }
def PackPlaysWrongFalsely : Prop := packPlaysRow.holds Tryd.pinned (OpenSpec.ofChange packPlaysWrong)

/-- 'reservoirlaw8.PackShorter': WHATEVER THE INPUT: true; the input reads as it did. -/
def packShorterSpec : ChangeSpec := { name := "packShorter", fn := fun _ => fun
  | [d] => { results := [.lit (.bool true)], args := [d] }
  | _ => none }
def packShorterRow : OpenClaim := { program := "ytmlnboibclfmcaadoor", sum := "c81c8b31404b186910849d8076ddfbea4df55ba566ee24f464ba01b7697a59c6", func := "reservoir/reservoirlaw8.PackShorter", spec := "packShorter", inPlace := ["internal/bytealg.CountString", "internal/bytealg.IndexByteString", "internal/bytealg.IndexString", "slices.overlaps[reservoir/api.Field]"], named := ["unicode/utf8.first", "unicode/utf8.acceptRanges", "internal/bytealg.MaxLen"], apart := false, laid := [("unicode/utf8.acceptRanges", laid_unicode_utf8_acceptRanges), ("unicode/utf8.first", laid_unicode_utf8_first)] }
def PackShorterSaid : Prop := packShorterRow.holds Tryd.pinned (OpenSpec.ofChange packShorterSpec)

/-- ITS FALSE NEIGHBOUR: 'it returns false'. Refute it at one input. -/
def packShorterWrong : ChangeSpec := { name := "packShorter", fn := fun _ => fun
  | [d] => { results := [.lit (.bool false)], args := [d] }
  | _ => none }
def PackShorterWrongFalsely : Prop := packShorterRow.holds Tryd.pinned (OpenSpec.ofChange packShorterWrong)

/-- 'reservoirlaw8.PackSecret': WHATEVER THE INPUT: true; the input reads as it did. -/
def packSecretSpec : ChangeSpec := { name := "packSecret", fn := fun _ => fun
  | [d] => { results := [.lit (.bool true)], args := [d] }
  | _ => none }
def packSecretRow : OpenClaim := { program := "ytmlnboibclfmcaadoor", sum := "c81c8b31404b186910849d8076ddfbea4df55ba566ee24f464ba01b7697a59c6", func := "reservoir/reservoirlaw8.PackSecret", spec := "packSecret", inPlace := ["internal/bytealg.CountString", "internal/bytealg.IndexByteString", "internal/bytealg.IndexString", "slices.overlaps[reservoir/api.Field]"], named := ["unicode/utf8.first", "unicode/utf8.acceptRanges", "internal/bytealg.MaxLen"], apart := false, laid := [("unicode/utf8.acceptRanges", laid_unicode_utf8_acceptRanges), ("unicode/utf8.first", laid_unicode_utf8_first)] }
def PackSecretSaid : Prop := packSecretRow.holds Tryd.pinned (OpenSpec.ofChange packSecretSpec)

/-- ITS FALSE NEIGHBOUR: 'it returns false'. Refute it at one input. -/
def packSecretWrong : ChangeSpec := { name := "packSecret", fn := fun _ => fun
  | [d] => { results := [.lit (.bool false)], args := [d] }
  | _ => none }
def PackSecretWrongFalsely : Prop := packSecretRow.holds Tryd.pinned (OpenSpec.ofChange packSecretWrong)

/-- 'reservoirlaw8.PackBound': WHATEVER THE INPUT: true; the input reads as it did. -/
def packBoundSpec : ChangeSpec := { name := "packBound", fn := fun _ => fun
  | [d] => { results := [.lit (.bool true)], args := [d] }
  | _ => none }
def packBoundRow : OpenClaim := { program := "ytmlnboibclfmcaadoor", sum := "c81c8b31404b186910849d8076ddfbea4df55ba566ee24f464ba01b7697a59c6", func := "reservoir/reservoirlaw8.PackBound", spec := "packBound", inPlace := ["internal/bytealg.CountString", "internal/bytealg.IndexByteString", "internal/bytealg.IndexString", "slices.overlaps[reservoir/api.Field]"], named := ["unicode/utf8.first", "unicode/utf8.acceptRanges", "internal/bytealg.MaxLen"], apart := false, laid := [("unicode/utf8.acceptRanges", laid_unicode_utf8_acceptRanges), ("unicode/utf8.first", laid_unicode_utf8_first)] }
def PackBoundSaid : Prop := packBoundRow.holds Tryd.pinned (OpenSpec.ofChange packBoundSpec)

/-- ITS FALSE NEIGHBOUR: 'it returns false'. Refute it at one input. -/
def packBoundWrong : ChangeSpec := { name := "packBound", fn := fun _ => fun
  | [d] => { results := [.lit (.bool false)], args := [d] }
  | _ => none }
def PackBoundWrongFalsely : Prop := packBoundRow.holds Tryd.pinned (OpenSpec.ofChange packBoundWrong)

/-- 'reservoirlaw7.UnpackRuns': WHATEVER THE INPUT: true; the input reads as it did. -/
def unpackRunsSpec : ChangeSpec := { name := "unpackRuns", fn := fun _ => fun
  | [] => { results := [.lit (.bool true)], args := [] }
  | _ => none }
def unpackRunsRow : OpenClaim := { program := "ytmlnboibclfmcaadoor", sum := "c81c8b31404b186910849d8076ddfbea4df55ba566ee24f464ba01b7697a59c6", func := "reservoir/reservoirlaw7.UnpackRuns", spec := "unpackRuns", inPlace := ["internal/bytealg.CountString", "internal/bytealg.IndexByteString", "internal/bytealg.IndexString", "slices.overlaps[reservoir/api.Field]"], unfollowed := true, recurses := true, named := ["unicode/utf8.first", "unicode/utf8.acceptRanges", "internal/bytealg.MaxLen"], apart := false, laid := [("unicode/utf8.acceptRanges", laid_unicode_utf8_acceptRanges), ("unicode/utf8.first", laid_unicode_utf8_first)] }
def UnpackRunsSaid : Prop := unpackRunsRow.holds Tryd.pinned (OpenSpec.ofChange unpackRunsSpec)

/-- ITS FALSE NEIGHBOUR: 'it returns false'. Refute it at one input. -/
def unpackRunsWrong : ChangeSpec := { name := "unpackRuns", fn := fun _ => fun
  | [] => { results := [.lit (.bool false)], args := [] }
  | _ => none }
def UnpackRunsWrongFalsely : Prop := unpackRunsRow.holds Tryd.pinned (OpenSpec.ofChange unpackRunsWrong)

/-- 'reservoirlaw7.UnpackPlays': WHATEVER THE INPUT: true; the input reads as it did. -/
def unpackPlaysSpec : ChangeSpec := { name := "unpackPlays", fn := fun _ => fun
  | [d1, d2, d3] => { results := [.lit (.bool true)], args := [d1, d2, d3] }
  | _ => none }
def unpackPlaysRow : OpenClaim := { program := "ytmlnboibclfmcaadoor", sum := "c81c8b31404b186910849d8076ddfbea4df55ba566ee24f464ba01b7697a59c6", func := "reservoir/reservoirlaw7.UnpackPlays", spec := "unpackPlays", inPlace := ["internal/bytealg.CountString", "internal/bytealg.IndexByteString", "internal/bytealg.IndexString", "slices.overlaps[reservoir/api.Field]"], unfollowed := true, recurses := true, named := ["unicode/utf8.first", "unicode/utf8.acceptRanges", "internal/bytealg.MaxLen"], apart := false, laid := [("unicode/utf8.acceptRanges", laid_unicode_utf8_acceptRanges), ("unicode/utf8.first", laid_unicode_utf8_first)] }
def UnpackPlaysSaid : Prop := unpackPlaysRow.holds Tryd.pinned (OpenSpec.ofChange unpackPlaysSpec)

/-- ITS FALSE NEIGHBOUR: 'it returns false'. Refute it at one input. -/
def unpackPlaysWrong : ChangeSpec := { name := "unpackPlays", fn := fun _ => fun
  | [d1, d2, d3] => { results := [.lit (.bool false)], args := [d1, d2, d3] }
  | _ => none }
def UnpackPlaysWrongFalsely : Prop := unpackPlaysRow.holds Tryd.pinned (OpenSpec.ofChange unpackPlaysWrong)

/-- 'reservoirlaw7.UnpackBounded': WHATEVER THE INPUT: true; the input reads as it did. -/
def unpackBoundedSpec : ChangeSpec := { name := "unpackBounded", fn := fun _ => fun
  | [d1, d2, d3] => { results := [.lit (.bool true)], args := [d1, d2, d3] }
  | _ => none }
def unpackBoundedRow : OpenClaim := { program := "ytmlnboibclfmcaadoor", sum := "c81c8b31404b186910849d8076ddfbea4df55ba566ee24f464ba01b7697a59c6", func := "reservoir/reservoirlaw7.UnpackBounded", spec := "unpackBounded", inPlace := ["internal/bytealg.CountString", "internal/bytealg.IndexByteString", "internal/bytealg.IndexString", "slices.overlaps[reservoir/api.Field]"], unfollowed := true, recurses := true, named := ["unicode/utf8.first", "unicode/utf8.acceptRanges", "internal/bytealg.MaxLen"], apart := false, laid := [("unicode/utf8.acceptRanges", laid_unicode_utf8_acceptRanges), ("unicode/utf8.first", laid_unicode_utf8_first)] }
def UnpackBoundedSaid : Prop := unpackBoundedRow.holds Tryd.pinned (OpenSpec.ofChange unpackBoundedSpec)

/-- ITS FALSE NEIGHBOUR: 'it returns false'. Refute it at one input. -/
def unpackBoundedWrong : ChangeSpec := { name := "unpackBounded", fn := fun _ => fun
  | [d1, d2, d3] => { results := [.lit (.bool false)], args := [d1, d2, d3] }
  | _ => none }
def UnpackBoundedWrongFalsely : Prop := unpackBoundedRow.holds Tryd.pinned (OpenSpec.ofChange unpackBoundedWrong)

/-- 'reservoirlaw7.UnpackPlain': WHATEVER THE INPUT: true; the input reads as it did. -/
def unpackPlainSpec : ChangeSpec := { name := "unpackPlain", fn := fun _ => fun
  | [d1, d2] => { results := [.lit (.bool true)], args := [d1, d2] }
  | _ => none }
def unpackPlainRow : OpenClaim := { program := "ytmlnboibclfmcaadoor", sum := "c81c8b31404b186910849d8076ddfbea4df55ba566ee24f464ba01b7697a59c6", func := "reservoir/reservoirlaw7.UnpackPlain", spec := "unpackPlain", inPlace := ["internal/bytealg.CountString", "internal/bytealg.IndexByteString", "internal/bytealg.IndexString", "slices.overlaps[reservoir/api.Field]"], unfollowed := true, recurses := true, named := ["unicode/utf8.first", "unicode/utf8.acceptRanges", "internal/bytealg.MaxLen"], apart := false, laid := [("unicode/utf8.acceptRanges", laid_unicode_utf8_acceptRanges), ("unicode/utf8.first", laid_unicode_utf8_first)] }
def UnpackPlainSaid : Prop := unpackPlainRow.holds Tryd.pinned (OpenSpec.ofChange unpackPlainSpec)

/-- ITS FALSE NEIGHBOUR: 'it returns false'. Refute it at one input. -/
def unpackPlainWrong : ChangeSpec := { name := "unpackPlain", fn := fun _ => fun
  | [d1, d2] => { results := [.lit (.bool false)], args := [d1, d2] }
  | _ => none }
def UnpackPlainWrongFalsely : Prop := unpackPlainRow.holds Tryd.pinned (OpenSpec.ofChange unpackPlainWrong)

/-- 'reservoirlaw8.PackBack': WHATEVER THE INPUT: true; the input reads as it did. -/
def packBackSpec : ChangeSpec := { name := "packBack", fn := fun _ => fun
  | [d] => { results := [.lit (.bool true)], args := [d] }
  | _ => none }
def packBackRow : OpenClaim := { program := "ytmlnboibclfmcaadoor", sum := "c81c8b31404b186910849d8076ddfbea4df55ba566ee24f464ba01b7697a59c6", func := "reservoir/reservoirlaw8.PackBack", spec := "packBack", inPlace := ["internal/bytealg.CountString", "internal/bytealg.IndexByteString", "internal/bytealg.IndexString", "slices.overlaps[reservoir/api.Field]"], unfollowed := true, recurses := true, named := ["unicode/utf8.first", "unicode/utf8.acceptRanges", "internal/bytealg.MaxLen"], apart := false, laid := [("unicode/utf8.acceptRanges", laid_unicode_utf8_acceptRanges), ("unicode/utf8.first", laid_unicode_utf8_first)] }
def PackBackSaid : Prop := packBackRow.holds Tryd.pinned (OpenSpec.ofChange packBackSpec)

/-- ITS FALSE NEIGHBOUR: 'it returns false'. Refute it at one input. -/
def packBackWrong : ChangeSpec := { name := "packBack", fn := fun _ => fun
  | [d] => { results := [.lit (.bool false)], args := [d] }
  | _ => none }
def PackBackWrongFalsely : Prop := packBackRow.holds Tryd.pinned (OpenSpec.ofChange packBackWrong)

/- THE SECOND FORM. 'bulk': how many values and letters a reading holds, each counted each time it is reached (what is shared counts as often as it is met; a slice's spare places count too). A statement '..UptoSaid' is the law's where the arguments, and the package variables that the reading takes, are together of bulk at most 1048576: NARROWER than '..Said'. Prove '..Said' where nothing that the law and all that it calls make is longer than what came in: it says more and counts as full. Else prove '..UptoSaid'. A law counts once. -/
mutual
def uptoBulk {H : Type} : DataW H → Nat
  | .lit (.string bytes) => bytes.length + 1
  | .lit _ => 1
  | .nil => 1
  | .ptr d => uptoBulk d + 1
  | .slice elems spare => uptoBulkAll elems + uptoBulkAll spare + 1
  | .agg parts => uptoBulkAll parts + 1
  | .iface _ d => uptoBulk d + 1
  | .map entries => uptoBulkEntries entries + 1
  | .held _ => 1
def uptoBulkAll {H : Type} : List (DataW H) → Nat
  | [] => 0
  | d :: r => uptoBulk d + uptoBulkAll r
def uptoBulkEntries {H : Type} : List (Lit × DataW H) → Nat
  | [] => 0
  | x :: r => uptoBulkEntry x + uptoBulkEntries r
def uptoBulkEntry {H : Type} : Lit × DataW H → Nat
  | (.string bytes, d) => bytes.length + uptoBulk d + 1
  | (_, d) => uptoBulk d + 1
 end
def uptoSmall : (H : Type) → List (DataW H) → Bool := fun _ ds => decide (uptoBulkAll ds ≤ 1048576)
def OpenSpec.upto (s : _root_.Go.ChangeSpec) : _root_.Go.OpenSpec := { _root_.Go.OpenSpec.ofChange s with cond := some uptoSmall }

/-- 'reservoirlaw6.TableRuns', WHERE WHAT IT READS IS OF BULK AT MOST 1048576: true; the input reads as it did. -/
def tableRunsUptoRow : OpenClaim := { program := "ytmlnboibclfmcaadoor", sum := "c81c8b31404b186910849d8076ddfbea4df55ba566ee24f464ba01b7697a59c6", func := "reservoir/reservoirlaw6.TableRuns", spec := "tableRuns", inPlace := ["internal/bytealg.CountString", "internal/bytealg.IndexByteString", "internal/bytealg.IndexString", "slices.overlaps[reservoir/api.Field]"], named := ["unicode/utf8.first", "unicode/utf8.acceptRanges", "internal/bytealg.MaxLen"], apart := false, laid := [("unicode/utf8.acceptRanges", laid_unicode_utf8_acceptRanges), ("unicode/utf8.first", laid_unicode_utf8_first)], narrowed := true }
def TableRunsUptoSaid : Prop := tableRunsUptoRow.holds Tryd.pinned (OpenSpec.upto tableRunsSpec)

/-- 'reservoirlaw6.TableFinds', WHERE WHAT IT READS IS OF BULK AT MOST 1048576: true; the input reads as it did. -/
def tableFindsUptoRow : OpenClaim := { program := "ytmlnboibclfmcaadoor", sum := "c81c8b31404b186910849d8076ddfbea4df55ba566ee24f464ba01b7697a59c6", func := "reservoir/reservoirlaw6.TableFinds", spec := "tableFinds", inPlace := ["internal/bytealg.CountString", "internal/bytealg.IndexByteString", "internal/bytealg.IndexString", "slices.overlaps[reservoir/api.Field]"], named := ["unicode/utf8.first", "unicode/utf8.acceptRanges", "internal/bytealg.MaxLen"], apart := false, laid := [("unicode/utf8.acceptRanges", laid_unicode_utf8_acceptRanges), ("unicode/utf8.first", laid_unicode_utf8_first)], narrowed := true }
def TableFindsUptoSaid : Prop := tableFindsUptoRow.holds Tryd.pinned (OpenSpec.upto tableFindsSpec)

/-- 'reservoirlaw6.TablePlays', WHERE WHAT IT READS IS OF BULK AT MOST 1048576: true; the input reads as it did. -/
def tablePlaysUptoRow : OpenClaim := { program := "ytmlnboibclfmcaadoor", sum := "c81c8b31404b186910849d8076ddfbea4df55ba566ee24f464ba01b7697a59c6", func := "reservoir/reservoirlaw6.TablePlays", spec := "tablePlays", inPlace := ["internal/bytealg.CountString", "internal/bytealg.IndexByteString", "internal/bytealg.IndexString", "slices.overlaps[reservoir/api.Field]"], named := ["unicode/utf8.first", "unicode/utf8.acceptRanges", "internal/bytealg.MaxLen"], apart := false, laid := [("unicode/utf8.acceptRanges", laid_unicode_utf8_acceptRanges), ("unicode/utf8.first", laid_unicode_utf8_first)], narrowed := true }
def TablePlaysUptoSaid : Prop := tablePlaysUptoRow.holds Tryd.pinned (OpenSpec.upto tablePlaysSpec)

/-- 'reservoirlaw6.TableBounded', WHERE WHAT IT READS IS OF BULK AT MOST 1048576: true; the input reads as it did. -/
def tableBoundedUptoRow : OpenClaim := { program := "ytmlnboibclfmcaadoor", sum := "c81c8b31404b186910849d8076ddfbea4df55ba566ee24f464ba01b7697a59c6", func := "reservoir/reservoirlaw6.TableBounded", spec := "tableBounded", inPlace := ["internal/bytealg.CountString", "internal/bytealg.IndexByteString", "internal/bytealg.IndexString", "slices.overlaps[reservoir/api.Field]"], named := ["unicode/utf8.first", "unicode/utf8.acceptRanges", "internal/bytealg.MaxLen"], apart := false, laid := [("unicode/utf8.acceptRanges", laid_unicode_utf8_acceptRanges), ("unicode/utf8.first", laid_unicode_utf8_first)], narrowed := true }
def TableBoundedUptoSaid : Prop := tableBoundedUptoRow.holds Tryd.pinned (OpenSpec.upto tableBoundedSpec)

/-- 'reservoirlaw6.TableTwins', WHERE WHAT IT READS IS OF BULK AT MOST 1048576: true; the input reads as it did. -/
def tableTwinsUptoRow : OpenClaim := { program := "ytmlnboibclfmcaadoor", sum := "c81c8b31404b186910849d8076ddfbea4df55ba566ee24f464ba01b7697a59c6", func := "reservoir/reservoirlaw6.TableTwins", spec := "tableTwins", inPlace := ["internal/bytealg.CountString", "internal/bytealg.IndexByteString", "internal/bytealg.IndexString", "slices.overlaps[reservoir/api.Field]"], named := ["unicode/utf8.first", "unicode/utf8.acceptRanges", "internal/bytealg.MaxLen"], apart := false, laid := [("unicode/utf8.acceptRanges", laid_unicode_utf8_acceptRanges), ("unicode/utf8.first", laid_unicode_utf8_first)], narrowed := true }
def TableTwinsUptoSaid : Prop := tableTwinsUptoRow.holds Tryd.pinned (OpenSpec.upto tableTwinsSpec)

/-- 'reservoirlaw8.PackRuns', WHERE WHAT IT READS IS OF BULK AT MOST 1048576: true; the input reads as it did. -/
def packRunsUptoRow : OpenClaim := { program := "ytmlnboibclfmcaadoor", sum := "c81c8b31404b186910849d8076ddfbea4df55ba566ee24f464ba01b7697a59c6", func := "reservoir/reservoirlaw8.PackRuns", spec := "packRuns", inPlace := ["internal/bytealg.CountString", "internal/bytealg.IndexByteString", "internal/bytealg.IndexString", "slices.overlaps[reservoir/api.Field]"], named := ["unicode/utf8.first", "unicode/utf8.acceptRanges", "internal/bytealg.MaxLen"], apart := false, laid := [("unicode/utf8.acceptRanges", laid_unicode_utf8_acceptRanges), ("unicode/utf8.first", laid_unicode_utf8_first)], narrowed := true }
def PackRunsUptoSaid : Prop := packRunsUptoRow.holds Tryd.pinned (OpenSpec.upto packRunsSpec)

/-- 'reservoirlaw8.PackPlays', WHERE WHAT IT READS IS OF BULK AT MOST 1048576: true; the input reads as it did. -/
def packPlaysUptoRow : OpenClaim := { program := "ytmlnboibclfmcaadoor", sum := "c81c8b31404b186910849d8076ddfbea4df55ba566ee24f464ba01b7697a59c6", func := "reservoir/reservoirlaw8.PackPlays", spec := "packPlays", inPlace := ["internal/bytealg.CountString", "internal/bytealg.IndexByteString", "internal/bytealg.IndexString", "slices.overlaps[reservoir/api.Field]"], named := ["unicode/utf8.first", "unicode/utf8.acceptRanges", "internal/bytealg.MaxLen"], apart := false, laid := [("unicode/utf8.acceptRanges", laid_unicode_utf8_acceptRanges), ("unicode/utf8.first", laid_unicode_utf8_first)], narrowed := true }
def PackPlaysUptoSaid : Prop := packPlaysUptoRow.holds Tryd.pinned (OpenSpec.upto packPlaysSpec)

/-- 'reservoirlaw8.PackShorter', WHERE WHAT IT READS IS OF BULK AT MOST 1048576: true; the input reads as it did. -/
def packShorterUptoRow : OpenClaim := { program := "ytmlnboibclfmcaadoor", sum := "c81c8b31404b186910849d8076ddfbea4df55ba566ee24f464ba01b7697a59c6", func := "reservoir/reservoirlaw8.PackShorter", spec := "packShorter", inPlace := ["internal/bytealg.CountString", "internal/bytealg.IndexByteString", "internal/bytealg.IndexString", "slices.overlaps[reservoir/api.Field]"], named := ["unicode/utf8.first", "unicode/utf8.acceptRanges", "internal/bytealg.MaxLen"], apart := false, laid := [("unicode/utf8.acceptRanges", laid_unicode_utf8_acceptRanges), ("unicode/utf8.first", laid_unicode_utf8_first)], narrowed := true }
def PackShorterUptoSaid : Prop := packShorterUptoRow.holds Tryd.pinned (OpenSpec.upto packShorterSpec)

/-- 'reservoirlaw8.PackSecret', WHERE WHAT IT READS IS OF BULK AT MOST 1048576: true; the input reads as it did. -/
def packSecretUptoRow : OpenClaim := { program := "ytmlnboibclfmcaadoor", sum := "c81c8b31404b186910849d8076ddfbea4df55ba566ee24f464ba01b7697a59c6", func := "reservoir/reservoirlaw8.PackSecret", spec := "packSecret", inPlace := ["internal/bytealg.CountString", "internal/bytealg.IndexByteString", "internal/bytealg.IndexString", "slices.overlaps[reservoir/api.Field]"], named := ["unicode/utf8.first", "unicode/utf8.acceptRanges", "internal/bytealg.MaxLen"], apart := false, laid := [("unicode/utf8.acceptRanges", laid_unicode_utf8_acceptRanges), ("unicode/utf8.first", laid_unicode_utf8_first)], narrowed := true }
def PackSecretUptoSaid : Prop := packSecretUptoRow.holds Tryd.pinned (OpenSpec.upto packSecretSpec)

/-- 'reservoirlaw8.PackBound', WHERE WHAT IT READS IS OF BULK AT MOST 1048576: true; the input reads as it did. -/
def packBoundUptoRow : OpenClaim := { program := "ytmlnboibclfmcaadoor", sum := "c81c8b31404b186910849d8076ddfbea4df55ba566ee24f464ba01b7697a59c6", func := "reservoir/reservoirlaw8.PackBound", spec := "packBound", inPlace := ["internal/bytealg.CountString", "internal/bytealg.IndexByteString", "internal/bytealg.IndexString", "slices.overlaps[reservoir/api.Field]"], named := ["unicode/utf8.first", "unicode/utf8.acceptRanges", "internal/bytealg.MaxLen"], apart := false, laid := [("unicode/utf8.acceptRanges", laid_unicode_utf8_acceptRanges), ("unicode/utf8.first", laid_unicode_utf8_first)], narrowed := true }
def PackBoundUptoSaid : Prop := packBoundUptoRow.holds Tryd.pinned (OpenSpec.upto packBoundSpec)

/-- 'reservoirlaw7.UnpackRuns', WHERE WHAT IT READS IS OF BULK AT MOST 1048576: true; the input reads as it did. -/
def unpackRunsUptoRow : OpenClaim := { program := "ytmlnboibclfmcaadoor", sum := "c81c8b31404b186910849d8076ddfbea4df55ba566ee24f464ba01b7697a59c6", func := "reservoir/reservoirlaw7.UnpackRuns", spec := "unpackRuns", inPlace := ["internal/bytealg.CountString", "internal/bytealg.IndexByteString", "internal/bytealg.IndexString", "slices.overlaps[reservoir/api.Field]"], unfollowed := true, recurses := true, named := ["unicode/utf8.first", "unicode/utf8.acceptRanges", "internal/bytealg.MaxLen"], apart := false, laid := [("unicode/utf8.acceptRanges", laid_unicode_utf8_acceptRanges), ("unicode/utf8.first", laid_unicode_utf8_first)], narrowed := true }
def UnpackRunsUptoSaid : Prop := unpackRunsUptoRow.holds Tryd.pinned (OpenSpec.upto unpackRunsSpec)

/-- 'reservoirlaw7.UnpackPlays', WHERE WHAT IT READS IS OF BULK AT MOST 1048576: true; the input reads as it did. -/
def unpackPlaysUptoRow : OpenClaim := { program := "ytmlnboibclfmcaadoor", sum := "c81c8b31404b186910849d8076ddfbea4df55ba566ee24f464ba01b7697a59c6", func := "reservoir/reservoirlaw7.UnpackPlays", spec := "unpackPlays", inPlace := ["internal/bytealg.CountString", "internal/bytealg.IndexByteString", "internal/bytealg.IndexString", "slices.overlaps[reservoir/api.Field]"], unfollowed := true, recurses := true, named := ["unicode/utf8.first", "unicode/utf8.acceptRanges", "internal/bytealg.MaxLen"], apart := false, laid := [("unicode/utf8.acceptRanges", laid_unicode_utf8_acceptRanges), ("unicode/utf8.first", laid_unicode_utf8_first)], narrowed := true }
def UnpackPlaysUptoSaid : Prop := unpackPlaysUptoRow.holds Tryd.pinned (OpenSpec.upto unpackPlaysSpec)

/-- 'reservoirlaw7.UnpackBounded', WHERE WHAT IT READS IS OF BULK AT MOST 1048576: true; the input reads as it did. -/
def unpackBoundedUptoRow : OpenClaim := { program := "ytmlnboibclfmcaadoor", sum := "c81c8b31404b186910849d8076ddfbea4df55ba566ee24f464ba01b7697a59c6", func := "reservoir/reservoirlaw7.UnpackBounded", spec := "unpackBounded", inPlace := ["internal/bytealg.CountString", "internal/bytealg.IndexByteString", "internal/bytealg.IndexString", "slices.overlaps[reservoir/api.Field]"], unfollowed := true, recurses := true, named := ["unicode/utf8.first", "unicode/utf8.acceptRanges", "internal/bytealg.MaxLen"], apart := false, laid := [("unicode/utf8.acceptRanges", laid_unicode_utf8_acceptRanges), ("unicode/utf8.first", laid_unicode_utf8_first)], narrowed := true }
def UnpackBoundedUptoSaid : Prop := unpackBoundedUptoRow.holds Tryd.pinned (OpenSpec.upto unpackBoundedSpec)

/-- 'reservoirlaw7.UnpackPlain', WHERE WHAT IT READS IS OF BULK AT MOST 1048576: true; the input reads as it did. -/
def unpackPlainUptoRow : OpenClaim := { program := "ytmlnboibclfmcaadoor", sum := "c81c8b31404b186910849d8076ddfbea4df55ba566ee24f464ba01b7697a59c6", func := "reservoir/reservoirlaw7.UnpackPlain", spec := "unpackPlain", inPlace := ["internal/bytealg.CountString", "internal/bytealg.IndexByteString", "internal/bytealg.IndexString", "slices.overlaps[reservoir/api.Field]"], unfollowed := true, recurses := true, named := ["unicode/utf8.first", "unicode/utf8.acceptRanges", "internal/bytealg.MaxLen"], apart := false, laid := [("unicode/utf8.acceptRanges", laid_unicode_utf8_acceptRanges), ("unicode/utf8.first", laid_unicode_utf8_first)], narrowed := true }
def UnpackPlainUptoSaid : Prop := unpackPlainUptoRow.holds Tryd.pinned (OpenSpec.upto unpackPlainSpec)

/-- 'reservoirlaw8.PackBack', WHERE WHAT IT READS IS OF BULK AT MOST 1048576: true; the input reads as it did. -/
def packBackUptoRow : OpenClaim := { program := "ytmlnboibclfmcaadoor", sum := "c81c8b31404b186910849d8076ddfbea4df55ba566ee24f464ba01b7697a59c6", func := "reservoir/reservoirlaw8.PackBack", spec := "packBack", inPlace := ["internal/bytealg.CountString", "internal/bytealg.IndexByteString", "internal/bytealg.IndexString", "slices.overlaps[reservoir/api.Field]"], unfollowed := true, recurses := true, named := ["unicode/utf8.first", "unicode/utf8.acceptRanges", "internal/bytealg.MaxLen"], apart := false, laid := [("unicode/utf8.acceptRanges", laid_unicode_utf8_acceptRanges), ("unicode/utf8.first", laid_unicode_utf8_first)], narrowed := true }
def PackBackUptoSaid : Prop := packBackUptoRow.holds Tryd.pinned (OpenSpec.upto packBackSpec)

end Rows
end Go.Proofs.YtmlnboibclfmcaaDoor
