/-
  No cell of these rows narrows 'for every input' (looked for: loops, veiled, ifaces, maps, wideKeys, modest, calm, conditions, laid).
  DERIVED. THE GIVEN ROWS OF THIS SEAT. 10 by the template 'for every input the law returns true; each argument reads behind the call as it read before'; 0 by the template 'total and deterministic' (their statements: YtodgnphmjagnkaaTotals.lean).
  GIVEN WITH THE SEED: the statements are not yours to turn. If you find one false, say at which input.
  Laid BY PROGRAM, IN A SANDBOX (cutbox-rows.mjs): the forced cells as the released guide's own fill.sh prints them over the translation 712d910862073672… (all of the seat's roots in one cut). By AI agents, Wed Nov 11 2026. No macro, syntax, notation, axiom, sorry.
-/
import Derived.Test.YtodgnphmjagnkaaChecked
import GoSem.Claim
import GoSem.ClaimJoined
import GoSem.ClaimMapViews
import Derived.JoinedTies
import Derived.KernelRfl
namespace Go.Proofs.Ytodgnphmjagnkaa
/- THE CELL 'sum', in the pinned program and in every row, IS THE sha256 OF THE DUMP (.gsa) THAT YtodgnphmjagnkaaProg.lean LOADS. Nothing in Lean hashes anything: it is a label: what it is worth is what the hold of that sum in a sandbox is worth. -/
noncomputable def Try.pinned : Pinned := { name := "ytodgnphmjagnkaa", sum := "712d910862073672c5df5c0814113ce5a3845a080066981801c445ccfaab3bec", checked := Try.checked }
namespace Rows
def none {H : Type} : Left H := { results := [], args := [] }

/-- 'reservoirlaw16.ControlRuns': WHATEVER THE INPUT: true; the input reads as it did. -/
def controlRunsSpec : ChangeSpec := { name := "controlRuns", fn := fun _ => fun
  | [] => { results := [.lit (.bool true)], args := [] }
  | _ => none }
def controlRunsRow : OpenClaim := { program := "ytodgnphmjagnkaa", sum := "712d910862073672c5df5c0814113ce5a3845a080066981801c445ccfaab3bec", func := "reservoir/reservoirlaw16.ControlRuns", spec := "controlRuns", inPlace := ["internal/abi.NoEscape", "internal/bytealg.MakeNoZero", "internal/bytealg.IndexByteString", "internal/bytealg.IndexString"], unfollowed := true, recurses := true, named := ["internal/bytealg.MaxLen"], apart := false }
def ControlRunsSaid : Prop := controlRunsRow.holds Try.pinned (OpenSpec.ofChange controlRunsSpec)

/-- ITS FALSE NEIGHBOUR: 'it returns false'. Refute it at one input. -/
def controlRunsWrong : ChangeSpec := { name := "controlRuns", fn := fun _ => fun
  | [] => { results := [.lit (.bool false)], args := [] }
  | _ => none }
def ControlRunsWrongFalsely : Prop := controlRunsRow.holds Try.pinned (OpenSpec.ofChange controlRunsWrong)

/-- 'reservoirlaw16.ControlTells': WHATEVER THE INPUT: true; the input reads as it did. -/
def controlTellsSpec : ChangeSpec := { name := "controlTells", fn := fun _ => fun
  | [d1, d2] => { results := [.lit (.bool true)], args := [d1, d2] }
  | _ => none }
def controlTellsRow : OpenClaim := { program := "ytodgnphmjagnkaa", sum := "712d910862073672c5df5c0814113ce5a3845a080066981801c445ccfaab3bec", func := "reservoir/reservoirlaw16.ControlTells", spec := "controlTells", inPlace := ["internal/abi.NoEscape", "internal/bytealg.MakeNoZero", "internal/bytealg.IndexByteString", "internal/bytealg.IndexString"], unfollowed := true, recurses := true, named := ["internal/bytealg.MaxLen"], apart := false }
def ControlTellsSaid : Prop := controlTellsRow.holds Try.pinned (OpenSpec.ofChange controlTellsSpec)

/-- ITS FALSE NEIGHBOUR: 'it returns false'. Refute it at one input. -/
def controlTellsWrong : ChangeSpec := { name := "controlTells", fn := fun _ => fun
  | [d1, d2] => { results := [.lit (.bool false)], args := [d1, d2] }
  | _ => none }
def ControlTellsWrongFalsely : Prop := controlTellsRow.holds Try.pinned (OpenSpec.ofChange controlTellsWrong)

/-- 'reservoirlaw16.ControlMore': WHATEVER THE INPUT: true; the input reads as it did. -/
def controlMoreSpec : ChangeSpec := { name := "controlMore", fn := fun _ => fun
  | [d1, d2] => { results := [.lit (.bool true)], args := [d1, d2] }
  | _ => none }
def controlMoreRow : OpenClaim := { program := "ytodgnphmjagnkaa", sum := "712d910862073672c5df5c0814113ce5a3845a080066981801c445ccfaab3bec", func := "reservoir/reservoirlaw16.ControlMore", spec := "controlMore", inPlace := ["internal/abi.NoEscape", "internal/bytealg.MakeNoZero", "internal/bytealg.IndexByteString", "internal/bytealg.IndexString"], unfollowed := true, recurses := true, named := ["internal/bytealg.MaxLen"], apart := false }
def ControlMoreSaid : Prop := controlMoreRow.holds Try.pinned (OpenSpec.ofChange controlMoreSpec)

/-- ITS FALSE NEIGHBOUR: 'it returns false'. Refute it at one input. -/
def controlMoreWrong : ChangeSpec := { name := "controlMore", fn := fun _ => fun
  | [d1, d2] => { results := [.lit (.bool false)], args := [d1, d2] }
  | _ => none }
def ControlMoreWrongFalsely : Prop := controlMoreRow.holds Try.pinned (OpenSpec.ofChange controlMoreWrong)

/-- 'reservoirlaw16.ControlNumbers': WHATEVER THE INPUT: true; the input reads as it did. -/
def controlNumbersSpec : ChangeSpec := { name := "controlNumbers", fn := fun _ => fun
  | [d1, d2, d3, d4] => { results := [.lit (.bool true)], args := [d1, d2, d3, d4] }
  | _ => none }
def controlNumbersRow : OpenClaim := { program := "ytodgnphmjagnkaa", sum := "712d910862073672c5df5c0814113ce5a3845a080066981801c445ccfaab3bec", func := "reservoir/reservoirlaw16.ControlNumbers", spec := "controlNumbers", inPlace := ["internal/abi.NoEscape", "internal/bytealg.MakeNoZero", "internal/bytealg.IndexByteString", "internal/bytealg.IndexString"], unfollowed := true, recurses := true, named := ["internal/bytealg.MaxLen"], apart := false }
def ControlNumbersSaid : Prop := controlNumbersRow.holds Try.pinned (OpenSpec.ofChange controlNumbersSpec)

/-- ITS FALSE NEIGHBOUR: 'it returns false'. Refute it at one input. -/
def controlNumbersWrong : ChangeSpec := { name := "controlNumbers", fn := fun _ => fun
  | [d1, d2, d3, d4] => { results := [.lit (.bool false)], args := [d1, d2, d3, d4] }
  | _ => none }
def ControlNumbersWrongFalsely : Prop := controlNumbersRow.holds Try.pinned (OpenSpec.ofChange controlNumbersWrong)

/-- 'reservoirlaw16.ControlQuoted': WHATEVER THE INPUT: true; the input reads as it did. -/
def controlQuotedSpec : ChangeSpec := { name := "controlQuoted", fn := fun _ => fun
  | [d1, d2] => { results := [.lit (.bool true)], args := [d1, d2] }
  | _ => none }
def controlQuotedRow : OpenClaim := { program := "ytodgnphmjagnkaa", sum := "712d910862073672c5df5c0814113ce5a3845a080066981801c445ccfaab3bec", func := "reservoir/reservoirlaw16.ControlQuoted", spec := "controlQuoted", inPlace := ["internal/abi.NoEscape", "internal/bytealg.MakeNoZero", "internal/bytealg.IndexByteString", "internal/bytealg.IndexString"], unfollowed := true, recurses := true, named := ["internal/bytealg.MaxLen"], apart := false }
def ControlQuotedSaid : Prop := controlQuotedRow.holds Try.pinned (OpenSpec.ofChange controlQuotedSpec)

/-- ITS FALSE NEIGHBOUR: 'it returns false'. Refute it at one input. -/
def controlQuotedWrong : ChangeSpec := { name := "controlQuoted", fn := fun _ => fun
  | [d1, d2] => { results := [.lit (.bool false)], args := [d1, d2] }
  | _ => none }
def ControlQuotedWrongFalsely : Prop := controlQuotedRow.holds Try.pinned (OpenSpec.ofChange controlQuotedWrong)

/-- 'reservoirlaw18.KeepRuns': WHATEVER THE INPUT: true; the input reads as it did. -/
def keepRunsSpec : ChangeSpec := { name := "keepRuns", fn := fun _ => fun
  | [] => { results := [.lit (.bool true)], args := [] }
  | _ => none }
def keepRunsRow : OpenClaim := { program := "ytodgnphmjagnkaa", sum := "712d910862073672c5df5c0814113ce5a3845a080066981801c445ccfaab3bec", func := "reservoir/reservoirlaw18.KeepRuns", spec := "keepRuns", inPlace := ["internal/abi.NoEscape", "internal/bytealg.MakeNoZero", "internal/bytealg.IndexByteString", "internal/bytealg.IndexString"], unfollowed := true, recurses := true, named := ["internal/bytealg.MaxLen"], apart := false }
def KeepRunsSaid : Prop := keepRunsRow.holds Try.pinned (OpenSpec.ofChange keepRunsSpec)

/-- ITS FALSE NEIGHBOUR: 'it returns false'. Refute it at one input. -/
def keepRunsWrong : ChangeSpec := { name := "keepRuns", fn := fun _ => fun
  | [] => { results := [.lit (.bool false)], args := [] }
  | _ => none }
def KeepRunsWrongFalsely : Prop := keepRunsRow.holds Try.pinned (OpenSpec.ofChange keepRunsWrong)

/-- 'reservoirlaw18.KeepNever': WHATEVER THE INPUT: true; the input reads as it did. -/
def keepNeverSpec : ChangeSpec := { name := "keepNever", fn := fun _ => fun
  | [d1, d2, d3, d4] => { results := [.lit (.bool true)], args := [d1, d2, d3, d4] }
  | _ => none }
def keepNeverRow : OpenClaim := { program := "ytodgnphmjagnkaa", sum := "712d910862073672c5df5c0814113ce5a3845a080066981801c445ccfaab3bec", func := "reservoir/reservoirlaw18.KeepNever", spec := "keepNever", inPlace := ["internal/abi.NoEscape", "internal/bytealg.MakeNoZero", "internal/bytealg.IndexByteString", "internal/bytealg.IndexString"], unfollowed := true, recurses := true, named := ["internal/bytealg.MaxLen"], apart := false }
def KeepNeverSaid : Prop := keepNeverRow.holds Try.pinned (OpenSpec.ofChange keepNeverSpec)

/-- ITS FALSE NEIGHBOUR: 'it returns false'. Refute it at one input. -/
def keepNeverWrong : ChangeSpec := { name := "keepNever", fn := fun _ => fun
  | [d1, d2, d3, d4] => { results := [.lit (.bool false)], args := [d1, d2, d3, d4] }
  | _ => none }
def KeepNeverWrongFalsely : Prop := keepNeverRow.holds Try.pinned (OpenSpec.ofChange keepNeverWrong)

/-- 'reservoirlaw18.KeepSays': WHATEVER THE INPUT: true; the input reads as it did. -/
def keepSaysSpec : ChangeSpec := { name := "keepSays", fn := fun _ => fun
  | [d1, d2, d3] => { results := [.lit (.bool true)], args := [d1, d2, d3] }
  | _ => none }
def keepSaysRow : OpenClaim := { program := "ytodgnphmjagnkaa", sum := "712d910862073672c5df5c0814113ce5a3845a080066981801c445ccfaab3bec", func := "reservoir/reservoirlaw18.KeepSays", spec := "keepSays", inPlace := ["internal/abi.NoEscape", "internal/bytealg.MakeNoZero", "internal/bytealg.IndexByteString", "internal/bytealg.IndexString"], unfollowed := true, recurses := true, named := ["internal/bytealg.MaxLen"], apart := false }
def KeepSaysSaid : Prop := keepSaysRow.holds Try.pinned (OpenSpec.ofChange keepSaysSpec)

/-- ITS FALSE NEIGHBOUR: 'it returns false'. Refute it at one input. -/
def keepSaysWrong : ChangeSpec := { name := "keepSays", fn := fun _ => fun
  | [d1, d2, d3] => { results := [.lit (.bool false)], args := [d1, d2, d3] }
  | _ => none }
def KeepSaysWrongFalsely : Prop := keepSaysRow.holds Try.pinned (OpenSpec.ofChange keepSaysWrong)

/-- 'reservoirlaw18.KeepPlain': WHATEVER THE INPUT: true; the input reads as it did. -/
def keepPlainSpec : ChangeSpec := { name := "keepPlain", fn := fun _ => fun
  | [d] => { results := [.lit (.bool true)], args := [d] }
  | _ => none }
def keepPlainRow : OpenClaim := { program := "ytodgnphmjagnkaa", sum := "712d910862073672c5df5c0814113ce5a3845a080066981801c445ccfaab3bec", func := "reservoir/reservoirlaw18.KeepPlain", spec := "keepPlain", inPlace := ["internal/abi.NoEscape", "internal/bytealg.MakeNoZero", "internal/bytealg.IndexByteString", "internal/bytealg.IndexString"], unfollowed := true, recurses := true, named := ["internal/bytealg.MaxLen"], apart := false }
def KeepPlainSaid : Prop := keepPlainRow.holds Try.pinned (OpenSpec.ofChange keepPlainSpec)

/-- ITS FALSE NEIGHBOUR: 'it returns false'. Refute it at one input. -/
def keepPlainWrong : ChangeSpec := { name := "keepPlain", fn := fun _ => fun
  | [d] => { results := [.lit (.bool false)], args := [d] }
  | _ => none }
def KeepPlainWrongFalsely : Prop := keepPlainRow.holds Try.pinned (OpenSpec.ofChange keepPlainWrong)

/-- 'reservoirlaw18.KeepLogin': WHATEVER THE INPUT: true; the input reads as it did. -/
def keepLoginSpec : ChangeSpec := { name := "keepLogin", fn := fun _ => fun
  | [d1, d2] => { results := [.lit (.bool true)], args := [d1, d2] }
  | _ => none }
def keepLoginRow : OpenClaim := { program := "ytodgnphmjagnkaa", sum := "712d910862073672c5df5c0814113ce5a3845a080066981801c445ccfaab3bec", func := "reservoir/reservoirlaw18.KeepLogin", spec := "keepLogin", inPlace := ["internal/abi.NoEscape", "internal/bytealg.MakeNoZero", "internal/bytealg.IndexByteString", "internal/bytealg.IndexString"], unfollowed := true, recurses := true, named := ["internal/bytealg.MaxLen"], apart := false }
def KeepLoginSaid : Prop := keepLoginRow.holds Try.pinned (OpenSpec.ofChange keepLoginSpec)

/-- ITS FALSE NEIGHBOUR: 'it returns false'. Refute it at one input. -/
def keepLoginWrong : ChangeSpec := { name := "keepLogin", fn := fun _ => fun
  | [d1, d2] => { results := [.lit (.bool false)], args := [d1, d2] }
  | _ => none }
def KeepLoginWrongFalsely : Prop := keepLoginRow.holds Try.pinned (OpenSpec.ofChange keepLoginWrong)

/- THE SECOND FORM. 'bulk': how many values and letters a reading holds, each counted each time it is reached (what is shared counts as often as it is met; a slice's spare places count too). A statement '..UptoSaid' is the law's where the arguments, and the package variables that the reading takes, are together of bulk at most 1048576: NARROWER than '..Said'. Prove '..Said' where nothing that the law and all that it calls make is longer than what came in: it says more and counts as full. Else prove '..UptoSaid'. A law counts once. -/
mutual
def uptoBulk {H : Type} : DataW H → Nat
  | .lit (.string bytes) => bytes.length + 1
  | .lit _ => 1
  | .nil => 1
  | .ptr d => uptoBulk d + 1
  | .slice elems spare => uptoBulkAll elems + uptoBulkAll spare + 1
  | .agg parts => uptoBulkAll parts + 1
  | .iface _ d => uptoBulk d + 1
  | .map entries => uptoBulkEntries entries + 1
  | .held _ => 1
def uptoBulkAll {H : Type} : List (DataW H) → Nat
  | [] => 0
  | d :: r => uptoBulk d + uptoBulkAll r
def uptoBulkEntries {H : Type} : List (Lit × DataW H) → Nat
  | [] => 0
  | x :: r => uptoBulkEntry x + uptoBulkEntries r
def uptoBulkEntry {H : Type} : Lit × DataW H → Nat
  | (.string bytes, d) => bytes.length + uptoBulk d + 1
  | (_, d) => uptoBulk d + 1
 end
def uptoSmall : (H : Type) → List (DataW H) → Bool := fun _ ds => decide (uptoBulkAll ds ≤ 1048576)
def OpenSpec.upto (s : _root_.Go.ChangeSpec) : _root_.Go.OpenSpec := { _root_.Go.OpenSpec.ofChange s with cond := some uptoSmall }

/-- 'reservoirlaw16.ControlRuns', WHERE WHAT IT READS IS OF BULK AT MOST 1048576: true; the input reads as it did. -/
def controlRunsUptoRow : OpenClaim := { program := "ytodgnphmjagnkaa", sum := "712d910862073672c5df5c0814113ce5a3845a080066981801c445ccfaab3bec", func := "reservoir/reservoirlaw16.ControlRuns", spec := "controlRuns", inPlace := ["internal/abi.NoEscape", "internal/bytealg.MakeNoZero", "internal/bytealg.IndexByteString", "internal/bytealg.IndexString"], unfollowed := true, recurses := true, named := ["internal/bytealg.MaxLen"], apart := false, narrowed := true }
def ControlRunsUptoSaid : Prop := controlRunsUptoRow.holds Try.pinned (OpenSpec.upto controlRunsSpec)

/-- 'reservoirlaw16.ControlTells', WHERE WHAT IT READS IS OF BULK AT MOST 1048576: true; the input reads as it did. -/
def controlTellsUptoRow : OpenClaim := { program := "ytodgnphmjagnkaa", sum := "712d910862073672c5df5c0814113ce5a3845a080066981801c445ccfaab3bec", func := "reservoir/reservoirlaw16.ControlTells", spec := "controlTells", inPlace := ["internal/abi.NoEscape", "internal/bytealg.MakeNoZero", "internal/bytealg.IndexByteString", "internal/bytealg.IndexString"], unfollowed := true, recurses := true, named := ["internal/bytealg.MaxLen"], apart := false, narrowed := true }
def ControlTellsUptoSaid : Prop := controlTellsUptoRow.holds Try.pinned (OpenSpec.upto controlTellsSpec)

/-- 'reservoirlaw16.ControlMore', WHERE WHAT IT READS IS OF BULK AT MOST 1048576: true; the input reads as it did. -/
def controlMoreUptoRow : OpenClaim := { program := "ytodgnphmjagnkaa", sum := "712d910862073672c5df5c0814113ce5a3845a080066981801c445ccfaab3bec", func := "reservoir/reservoirlaw16.ControlMore", spec := "controlMore", inPlace := ["internal/abi.NoEscape", "internal/bytealg.MakeNoZero", "internal/bytealg.IndexByteString", "internal/bytealg.IndexString"], unfollowed := true, recurses := true, named := ["internal/bytealg.MaxLen"], apart := false, narrowed := true }
def ControlMoreUptoSaid : Prop := controlMoreUptoRow.holds Try.pinned (OpenSpec.upto controlMoreSpec)

/-- 'reservoirlaw16.ControlNumbers', WHERE WHAT IT READS IS OF BULK AT MOST 1048576: true; the input reads as it did. -/
def controlNumbersUptoRow : OpenClaim := { program := "ytodgnphmjagnkaa", sum := "712d910862073672c5df5c0814113ce5a3845a080066981801c445ccfaab3bec", func := "reservoir/reservoirlaw16.ControlNumbers", spec := "controlNumbers", inPlace := ["internal/abi.NoEscape", "internal/bytealg.MakeNoZero", "internal/bytealg.IndexByteString", "internal/bytealg.IndexString"], unfollowed := true, recurses := true, named := ["internal/bytealg.MaxLen"], apart := false, narrowed := true }
def ControlNumbersUptoSaid : Prop := controlNumbersUptoRow.holds Try.pinned (OpenSpec.upto controlNumbersSpec)

/-- 'reservoirlaw16.ControlQuoted', WHERE WHAT IT READS IS OF BULK AT MOST 1048576: true; the input reads as it did. -/
def controlQuotedUptoRow : OpenClaim := { program := "ytodgnphmjagnkaa", sum := "712d910862073672c5df5c0814113ce5a3845a080066981801c445ccfaab3bec", func := "reservoir/reservoirlaw16.ControlQuoted", spec := "controlQuoted", inPlace := ["internal/abi.NoEscape", "internal/bytealg.MakeNoZero", "internal/bytealg.IndexByteString", "internal/bytealg.IndexString"], unfollowed := true, recurses := true, named := ["internal/bytealg.MaxLen"], apart := false, narrowed := true }
def ControlQuotedUptoSaid : Prop := controlQuotedUptoRow.holds Try.pinned (OpenSpec.upto controlQuotedSpec)

/-- 'reservoirlaw18.KeepRuns', WHERE WHAT IT READS IS OF BULK AT MOST 1048576: true; the input reads as it did. -/
def keepRunsUptoRow : OpenClaim := { program := "ytodgnphmjagnkaa", sum := "712d910862073672c5df5c0814113ce5a3845a080066981801c445ccfaab3bec", func := "reservoir/reservoirlaw18.KeepRuns", spec := "keepRuns", inPlace := ["internal/abi.NoEscape", "internal/bytealg.MakeNoZero", "internal/bytealg.IndexByteString", "internal/bytealg.IndexString"], unfollowed := true, recurses := true, named := ["internal/bytealg.MaxLen"], apart := false, narrowed := true }
def KeepRunsUptoSaid : Prop := keepRunsUptoRow.holds Try.pinned (OpenSpec.upto keepRunsSpec)

/-- 'reservoirlaw18.KeepNever', WHERE WHAT IT READS IS OF BULK AT MOST 1048576: true; the input reads as it did. -/
def keepNeverUptoRow : OpenClaim := { program := "ytodgnphmjagnkaa", sum := "712d910862073672c5df5c0814113ce5a3845a080066981801c445ccfaab3bec", func := "reservoir/reservoirlaw18.KeepNever", spec := "keepNever", inPlace := ["internal/abi.NoEscape", "internal/bytealg.MakeNoZero", "internal/bytealg.IndexByteString", "internal/bytealg.IndexString"], unfollowed := true, recurses := true, named := ["internal/bytealg.MaxLen"], apart := false, narrowed := true }
def KeepNeverUptoSaid : Prop := keepNeverUptoRow.holds Try.pinned (OpenSpec.upto keepNeverSpec)

/-- 'reservoirlaw18.KeepSays', WHERE WHAT IT READS IS OF BULK AT MOST 1048576: true; the input reads as it did. -/
def keepSaysUptoRow : OpenClaim := { program := "ytodgnphmjagnkaa", sum := "712d910862073672c5df5c0814113ce5a3845a080066981801c445ccfaab3bec", func := "reservoir/reservoirlaw18.KeepSays", spec := "keepSays", inPlace := ["internal/abi.NoEscape", "internal/bytealg.MakeNoZero", "internal/bytealg.IndexByteString", "internal/bytealg.IndexString"], unfollowed := true, recurses := true, named := ["internal/bytealg.MaxLen"], apart := false, narrowed := true }
def KeepSaysUptoSaid : Prop := keepSaysUptoRow.holds Try.pinned (OpenSpec.upto keepSaysSpec)

/-- 'reservoirlaw18.KeepPlain', WHERE WHAT IT READS IS OF BULK AT MOST 1048576: true; the input reads as it did. -/
def keepPlainUptoRow : OpenClaim := { program := "ytodgnphmjagnkaa", sum := "712d910862073672c5df5c0814113ce5a3845a080066981801c445ccfaab3bec", func := "reservoir/reservoirlaw18.KeepPlain", spec := "keepPlain", inPlace := ["internal/abi.NoEscape", "internal/bytealg.MakeNoZero", "internal/bytealg.IndexByteString", "internal/bytealg.IndexString"], unfollowed := true, recurses := true, named := ["internal/bytealg.MaxLen"], apart := false, narrowed := true }
def KeepPlainUptoSaid : Prop := keepPlainUptoRow.holds Try.pinned (OpenSpec.upto keepPlainSpec)

/-- 'reservoirlaw18.KeepLogin', WHERE WHAT IT READS IS OF BULK AT MOST 1048576: true; the input reads as it did. -/
def keepLoginUptoRow : OpenClaim := { program := "ytodgnphmjagnkaa", sum := "712d910862073672c5df5c0814113ce5a3845a080066981801c445ccfaab3bec", func := "reservoir/reservoirlaw18.KeepLogin", spec := "keepLogin", inPlace := ["internal/abi.NoEscape", "internal/bytealg.MakeNoZero", "internal/bytealg.IndexByteString", "internal/bytealg.IndexString"], unfollowed := true, recurses := true, named := ["internal/bytealg.MaxLen"], apart := false, narrowed := true }
def KeepLoginUptoSaid : Prop := keepLoginUptoRow.holds Try.pinned (OpenSpec.upto keepLoginSpec)

end Rows
end Go.Proofs.Ytodgnphmjagnkaa
