/-
  No cell of these rows narrows 'for every input' (looked for: loops, veiled, ifaces, maps, wideKeys, modest, calm, conditions, laid).
  DERIVED. THE GIVEN ROWS OF THIS SEAT. 7 by the template 'for every input the law returns true; each argument reads behind the call as it read before'; 0 by the template 'total and deterministic' (their statements: YtdcdckjdloddiaaTotals.lean).
  GIVEN WITH THE SEED: the statements are not yours to turn. If you find one false, say at which input.
  Laid BY PROGRAM, IN A SANDBOX (cutbox-rows.mjs): the forced cells as the released guide's own fill.sh prints them over the translation 5902bac37114c975… (all of the seat's roots in one cut). By AI agents, Wed Nov 11 2026. No macro, syntax, notation, axiom, sorry.
-/
import Derived.Test.YtdcdckjdloddiaaChecked
import GoSem.Claim
import GoSem.ClaimJoined
import GoSem.ClaimMapViews
import Derived.JoinedTies
import Derived.KernelRfl
namespace Go.Proofs.Ytdcdckjdloddiaa
/- THE CELL 'sum', in the pinned program and in every row, IS THE sha256 OF THE DUMP (.gsa) THAT YtdcdckjdloddiaaProg.lean LOADS. Nothing in Lean hashes anything: it is a label: what it is worth is what the hold of that sum in a sandbox is worth. -/
noncomputable def Try.pinned : Pinned := { name := "ytdcdckjdloddiaa", sum := "5902bac37114c9759bb409be6bc4ae118a280c265e21d2aaedaade00e019d899", checked := Try.checked }
namespace Rows
def none {H : Type} : Left H := { results := [], args := [] }

/-- 'reservoirlaw19.FreshGrows': WHATEVER THE INPUT: true; the input reads as it did. -/
def freshGrowsSpec : ChangeSpec := { name := "freshGrows", fn := fun _ => fun
  | [d1, d2, d3, d4] => { results := [.lit (.bool true)], args := [d1, d2, d3, d4] }
  | _ => none }
def freshGrowsRow : OpenClaim := { program := "ytdcdckjdloddiaa", sum := "5902bac37114c9759bb409be6bc4ae118a280c265e21d2aaedaade00e019d899", func := "reservoir/reservoirlaw19.FreshGrows", spec := "freshGrows", inPlace := ["internal/abi.NoEscape", "internal/bytealg.MakeNoZero", "internal/bytealg.IndexByteString", "internal/bytealg.IndexString"], unfollowed := true, recurses := true, named := ["internal/bytealg.MaxLen"], apart := false }
def FreshGrowsSaid : Prop := freshGrowsRow.holds Try.pinned (OpenSpec.ofChange freshGrowsSpec)

/-- ITS FALSE NEIGHBOUR: 'it returns false'. Refute it at one input. -/
def freshGrowsWrong : ChangeSpec := { name := "freshGrows", fn := fun _ => fun
  | [d1, d2, d3, d4] => { results := [.lit (.bool false)], args := [d1, d2, d3, d4] }
  | _ => none }
def FreshGrowsWrongFalsely : Prop := freshGrowsRow.holds Try.pinned (OpenSpec.ofChange freshGrowsWrong)

/-- 'reservoirlaw19.FreshTells': WHATEVER THE INPUT: true; the input reads as it did. -/
def freshTellsSpec : ChangeSpec := { name := "freshTells", fn := fun _ => fun
  | [d1, d2, d3] => { results := [.lit (.bool true)], args := [d1, d2, d3] }
  | _ => none }
def freshTellsRow : OpenClaim := { program := "ytdcdckjdloddiaa", sum := "5902bac37114c9759bb409be6bc4ae118a280c265e21d2aaedaade00e019d899", func := "reservoir/reservoirlaw19.FreshTells", spec := "freshTells", inPlace := ["internal/abi.NoEscape", "internal/bytealg.MakeNoZero", "internal/bytealg.IndexByteString", "internal/bytealg.IndexString"], unfollowed := true, recurses := true, named := ["internal/bytealg.MaxLen"], apart := false }
def FreshTellsSaid : Prop := freshTellsRow.holds Try.pinned (OpenSpec.ofChange freshTellsSpec)

/-- ITS FALSE NEIGHBOUR: 'it returns false'. Refute it at one input. -/
def freshTellsWrong : ChangeSpec := { name := "freshTells", fn := fun _ => fun
  | [d1, d2, d3] => { results := [.lit (.bool false)], args := [d1, d2, d3] }
  | _ => none }
def FreshTellsWrongFalsely : Prop := freshTellsRow.holds Try.pinned (OpenSpec.ofChange freshTellsWrong)

/-- 'reservoirlaw19.FreshEnds': WHATEVER THE INPUT: true; the input reads as it did. -/
def freshEndsSpec : ChangeSpec := { name := "freshEnds", fn := fun _ => fun
  | [d1, d2, d3] => { results := [.lit (.bool true)], args := [d1, d2, d3] }
  | _ => none }
def freshEndsRow : OpenClaim := { program := "ytdcdckjdloddiaa", sum := "5902bac37114c9759bb409be6bc4ae118a280c265e21d2aaedaade00e019d899", func := "reservoir/reservoirlaw19.FreshEnds", spec := "freshEnds", inPlace := ["internal/abi.NoEscape", "internal/bytealg.MakeNoZero", "internal/bytealg.IndexByteString", "internal/bytealg.IndexString"], unfollowed := true, recurses := true, named := ["internal/bytealg.MaxLen"], apart := false }
def FreshEndsSaid : Prop := freshEndsRow.holds Try.pinned (OpenSpec.ofChange freshEndsSpec)

/-- ITS FALSE NEIGHBOUR: 'it returns false'. Refute it at one input. -/
def freshEndsWrong : ChangeSpec := { name := "freshEnds", fn := fun _ => fun
  | [d1, d2, d3] => { results := [.lit (.bool false)], args := [d1, d2, d3] }
  | _ => none }
def FreshEndsWrongFalsely : Prop := freshEndsRow.holds Try.pinned (OpenSpec.ofChange freshEndsWrong)

/-- 'reservoirlaw21.ReuseTells': WHATEVER THE INPUT: true; the input reads as it did. -/
def reuseTellsSpec : ChangeSpec := { name := "reuseTells", fn := fun _ => fun
  | [d1, d2, d3, d4] => { results := [.lit (.bool true)], args := [d1, d2, d3, d4] }
  | _ => none }
def reuseTellsRow : OpenClaim := { program := "ytdcdckjdloddiaa", sum := "5902bac37114c9759bb409be6bc4ae118a280c265e21d2aaedaade00e019d899", func := "reservoir/reservoirlaw21.ReuseTells", spec := "reuseTells", inPlace := ["internal/abi.NoEscape", "internal/bytealg.MakeNoZero", "internal/bytealg.IndexByteString", "internal/bytealg.IndexString"], unfollowed := true, recurses := true, named := ["internal/bytealg.MaxLen"], apart := false }
def ReuseTellsSaid : Prop := reuseTellsRow.holds Try.pinned (OpenSpec.ofChange reuseTellsSpec)

/-- ITS FALSE NEIGHBOUR: 'it returns false'. Refute it at one input. -/
def reuseTellsWrong : ChangeSpec := { name := "reuseTells", fn := fun _ => fun
  | [d1, d2, d3, d4] => { results := [.lit (.bool false)], args := [d1, d2, d3, d4] }
  | _ => none }
def ReuseTellsWrongFalsely : Prop := reuseTellsRow.holds Try.pinned (OpenSpec.ofChange reuseTellsWrong)

/-- 'reservoirlaw21.ReuseStricter': WHATEVER THE INPUT: true; the input reads as it did. -/
def reuseStricterSpec : ChangeSpec := { name := "reuseStricter", fn := fun _ => fun
  | [d1, d2, d3, d4, d5, d6] => { results := [.lit (.bool true)], args := [d1, d2, d3, d4, d5, d6] }
  | _ => none }
def reuseStricterRow : OpenClaim := { program := "ytdcdckjdloddiaa", sum := "5902bac37114c9759bb409be6bc4ae118a280c265e21d2aaedaade00e019d899", func := "reservoir/reservoirlaw21.ReuseStricter", spec := "reuseStricter", inPlace := ["internal/abi.NoEscape", "internal/bytealg.MakeNoZero", "internal/bytealg.IndexByteString", "internal/bytealg.IndexString"], unfollowed := true, recurses := true, named := ["internal/bytealg.MaxLen"], apart := false }
def ReuseStricterSaid : Prop := reuseStricterRow.holds Try.pinned (OpenSpec.ofChange reuseStricterSpec)

/-- ITS FALSE NEIGHBOUR: 'it returns false'. Refute it at one input. -/
def reuseStricterWrong : ChangeSpec := { name := "reuseStricter", fn := fun _ => fun
  | [d1, d2, d3, d4, d5, d6] => { results := [.lit (.bool false)], args := [d1, d2, d3, d4, d5, d6] }
  | _ => none }
def ReuseStricterWrongFalsely : Prop := reuseStricterRow.holds Try.pinned (OpenSpec.ofChange reuseStricterWrong)

/-- 'reservoirlaw21.ReuseOnly': WHATEVER THE INPUT: true; the input reads as it did. -/
def reuseOnlySpec : ChangeSpec := { name := "reuseOnly", fn := fun _ => fun
  | [d1, d2, d3, d4] => { results := [.lit (.bool true)], args := [d1, d2, d3, d4] }
  | _ => none }
def reuseOnlyRow : OpenClaim := { program := "ytdcdckjdloddiaa", sum := "5902bac37114c9759bb409be6bc4ae118a280c265e21d2aaedaade00e019d899", func := "reservoir/reservoirlaw21.ReuseOnly", spec := "reuseOnly", inPlace := ["internal/abi.NoEscape", "internal/bytealg.MakeNoZero", "internal/bytealg.IndexByteString", "internal/bytealg.IndexString"], unfollowed := true, recurses := true, named := ["internal/bytealg.MaxLen"], apart := false }
def ReuseOnlySaid : Prop := reuseOnlyRow.holds Try.pinned (OpenSpec.ofChange reuseOnlySpec)

/-- ITS FALSE NEIGHBOUR: 'it returns false'. Refute it at one input. -/
def reuseOnlyWrong : ChangeSpec := { name := "reuseOnly", fn := fun _ => fun
  | [d1, d2, d3, d4] => { results := [.lit (.bool false)], args := [d1, d2, d3, d4] }
  | _ => none }
def ReuseOnlyWrongFalsely : Prop := reuseOnlyRow.holds Try.pinned (OpenSpec.ofChange reuseOnlyWrong)

/-- 'reservoirlaw21.ReuseFresh': WHATEVER THE INPUT: true; the input reads as it did. -/
def reuseFreshSpec : ChangeSpec := { name := "reuseFresh", fn := fun _ => fun
  | [d1, d2, d3, d4] => { results := [.lit (.bool true)], args := [d1, d2, d3, d4] }
  | _ => none }
def reuseFreshRow : OpenClaim := { program := "ytdcdckjdloddiaa", sum := "5902bac37114c9759bb409be6bc4ae118a280c265e21d2aaedaade00e019d899", func := "reservoir/reservoirlaw21.ReuseFresh", spec := "reuseFresh", inPlace := ["internal/abi.NoEscape", "internal/bytealg.MakeNoZero", "internal/bytealg.IndexByteString", "internal/bytealg.IndexString"], unfollowed := true, recurses := true, named := ["internal/bytealg.MaxLen"], apart := false }
def ReuseFreshSaid : Prop := reuseFreshRow.holds Try.pinned (OpenSpec.ofChange reuseFreshSpec)

/-- ITS FALSE NEIGHBOUR: 'it returns false'. Refute it at one input. -/
def reuseFreshWrong : ChangeSpec := { name := "reuseFresh", fn := fun _ => fun
  | [d1, d2, d3, d4] => { results := [.lit (.bool false)], args := [d1, d2, d3, d4] }
  | _ => none }
def ReuseFreshWrongFalsely : Prop := reuseFreshRow.holds Try.pinned (OpenSpec.ofChange reuseFreshWrong)

/- THE SECOND FORM. 'bulk': how many values and letters a reading holds, each counted each time it is reached (what is shared counts as often as it is met; a slice's spare places count too). A statement '..UptoSaid' is the law's where the arguments, and the package variables that the reading takes, are together of bulk at most 1048576: NARROWER than '..Said'. Prove '..Said' where nothing that the law and all that it calls make is longer than what came in: it says more and counts as full. Else prove '..UptoSaid'. A law counts once. -/
mutual
def uptoBulk {H : Type} : DataW H → Nat
  | .lit (.string bytes) => bytes.length + 1
  | .lit _ => 1
  | .nil => 1
  | .ptr d => uptoBulk d + 1
  | .slice elems spare => uptoBulkAll elems + uptoBulkAll spare + 1
  | .agg parts => uptoBulkAll parts + 1
  | .iface _ d => uptoBulk d + 1
  | .map entries => uptoBulkEntries entries + 1
  | .held _ => 1
def uptoBulkAll {H : Type} : List (DataW H) → Nat
  | [] => 0
  | d :: r => uptoBulk d + uptoBulkAll r
def uptoBulkEntries {H : Type} : List (Lit × DataW H) → Nat
  | [] => 0
  | x :: r => uptoBulkEntry x + uptoBulkEntries r
def uptoBulkEntry {H : Type} : Lit × DataW H → Nat
  | (.string bytes, d) => bytes.length + uptoBulk d + 1
  | (_, d) => uptoBulk d + 1
 end
def uptoSmall : (H : Type) → List (DataW H) → Bool := fun _ ds => decide (uptoBulkAll ds ≤ 1048576)
def OpenSpec.upto (s : _root_.Go.ChangeSpec) : _root_.Go.OpenSpec := { _root_.Go.OpenSpec.ofChange s with cond := some uptoSmall }

/-- 'reservoirlaw19.FreshGrows', WHERE WHAT IT READS IS OF BULK AT MOST 1048576: true; the input reads as it did. -/
def freshGrowsUptoRow : OpenClaim := { program := "ytdcdckjdloddiaa", sum := "5902bac37114c9759bb409be6bc4ae118a280c265e21d2aaedaade00e019d899", func := "reservoir/reservoirlaw19.FreshGrows", spec := "freshGrows", inPlace := ["internal/abi.NoEscape", "internal/bytealg.MakeNoZero", "internal/bytealg.IndexByteString", "internal/bytealg.IndexString"], unfollowed := true, recurses := true, named := ["internal/bytealg.MaxLen"], apart := false, narrowed := true }
def FreshGrowsUptoSaid : Prop := freshGrowsUptoRow.holds Try.pinned (OpenSpec.upto freshGrowsSpec)

/-- 'reservoirlaw19.FreshTells', WHERE WHAT IT READS IS OF BULK AT MOST 1048576: true; the input reads as it did. -/
def freshTellsUptoRow : OpenClaim := { program := "ytdcdckjdloddiaa", sum := "5902bac37114c9759bb409be6bc4ae118a280c265e21d2aaedaade00e019d899", func := "reservoir/reservoirlaw19.FreshTells", spec := "freshTells", inPlace := ["internal/abi.NoEscape", "internal/bytealg.MakeNoZero", "internal/bytealg.IndexByteString", "internal/bytealg.IndexString"], unfollowed := true, recurses := true, named := ["internal/bytealg.MaxLen"], apart := false, narrowed := true }
def FreshTellsUptoSaid : Prop := freshTellsUptoRow.holds Try.pinned (OpenSpec.upto freshTellsSpec)

/-- 'reservoirlaw19.FreshEnds', WHERE WHAT IT READS IS OF BULK AT MOST 1048576: true; the input reads as it did. -/
def freshEndsUptoRow : OpenClaim := { program := "ytdcdckjdloddiaa", sum := "5902bac37114c9759bb409be6bc4ae118a280c265e21d2aaedaade00e019d899", func := "reservoir/reservoirlaw19.FreshEnds", spec := "freshEnds", inPlace := ["internal/abi.NoEscape", "internal/bytealg.MakeNoZero", "internal/bytealg.IndexByteString", "internal/bytealg.IndexString"], unfollowed := true, recurses := true, named := ["internal/bytealg.MaxLen"], apart := false, narrowed := true }
def FreshEndsUptoSaid : Prop := freshEndsUptoRow.holds Try.pinned (OpenSpec.upto freshEndsSpec)

/-- 'reservoirlaw21.ReuseTells', WHERE WHAT IT READS IS OF BULK AT MOST 1048576: true; the input reads as it did. -/
def reuseTellsUptoRow : OpenClaim := { program := "ytdcdckjdloddiaa", sum := "5902bac37114c9759bb409be6bc4ae118a280c265e21d2aaedaade00e019d899", func := "reservoir/reservoirlaw21.ReuseTells", spec := "reuseTells", inPlace := ["internal/abi.NoEscape", "internal/bytealg.MakeNoZero", "internal/bytealg.IndexByteString", "internal/bytealg.IndexString"], unfollowed := true, recurses := true, named := ["internal/bytealg.MaxLen"], apart := false, narrowed := true }
def ReuseTellsUptoSaid : Prop := reuseTellsUptoRow.holds Try.pinned (OpenSpec.upto reuseTellsSpec)

/-- 'reservoirlaw21.ReuseStricter', WHERE WHAT IT READS IS OF BULK AT MOST 1048576: true; the input reads as it did. -/
def reuseStricterUptoRow : OpenClaim := { program := "ytdcdckjdloddiaa", sum := "5902bac37114c9759bb409be6bc4ae118a280c265e21d2aaedaade00e019d899", func := "reservoir/reservoirlaw21.ReuseStricter", spec := "reuseStricter", inPlace := ["internal/abi.NoEscape", "internal/bytealg.MakeNoZero", "internal/bytealg.IndexByteString", "internal/bytealg.IndexString"], unfollowed := true, recurses := true, named := ["internal/bytealg.MaxLen"], apart := false, narrowed := true }
def ReuseStricterUptoSaid : Prop := reuseStricterUptoRow.holds Try.pinned (OpenSpec.upto reuseStricterSpec)

/-- 'reservoirlaw21.ReuseOnly', WHERE WHAT IT READS IS OF BULK AT MOST 1048576: true; the input reads as it did. -/
def reuseOnlyUptoRow : OpenClaim := { program := "ytdcdckjdloddiaa", sum := "5902bac37114c9759bb409be6bc4ae118a280c265e21d2aaedaade00e019d899", func := "reservoir/reservoirlaw21.ReuseOnly", spec := "reuseOnly", inPlace := ["internal/abi.NoEscape", "internal/bytealg.MakeNoZero", "internal/bytealg.IndexByteString", "internal/bytealg.IndexString"], unfollowed := true, recurses := true, named := ["internal/bytealg.MaxLen"], apart := false, narrowed := true }
def ReuseOnlyUptoSaid : Prop := reuseOnlyUptoRow.holds Try.pinned (OpenSpec.upto reuseOnlySpec)

/-- 'reservoirlaw21.ReuseFresh', WHERE WHAT IT READS IS OF BULK AT MOST 1048576: true; the input reads as it did. -/
def reuseFreshUptoRow : OpenClaim := { program := "ytdcdckjdloddiaa", sum := "5902bac37114c9759bb409be6bc4ae118a280c265e21d2aaedaade00e019d899", func := "reservoir/reservoirlaw21.ReuseFresh", spec := "reuseFresh", inPlace := ["internal/abi.NoEscape", "internal/bytealg.MakeNoZero", "internal/bytealg.IndexByteString", "internal/bytealg.IndexString"], unfollowed := true, recurses := true, named := ["internal/bytealg.MaxLen"], apart := false, narrowed := true }
def ReuseFreshUptoSaid : Prop := reuseFreshUptoRow.holds Try.pinned (OpenSpec.upto reuseFreshSpec)

end Rows
end Go.Proofs.Ytdcdckjdloddiaa
