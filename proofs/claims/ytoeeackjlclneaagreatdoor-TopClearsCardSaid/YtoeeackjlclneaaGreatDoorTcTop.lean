/-
  TopClears from the row's own conditions.
-/
import Derived.Test.YtoeeackjlclneaaGreatDoorTcWalk
namespace Go.Proofs.YtoeeackjlclneaaGreatDoor
open Go.RowKit
set_option linter.unusedVariables false

theorem walkTopClears (w : World) (hL : laidMetH Tryz.prog Rows.topClearsRow.laid w) (hsh : w.ShapedOpen Tryz.prog) (a0 : Int) (w0 : (Lit.int .i64 a0).wf = true) (a1 : Int) (w1 : (Lit.int .i64 a1).wf = true) (a2 : ByteArray) (w2 : a2.size ≤ maxLen) :
    Calls Tryz.prog 3 #[.int .i64 a0, .int .i64 a1, .string a2] w fun e w' => e = .returned (.bool true) ∧ Aft w w' :=
  walk_clears w (maxOk_of w hsh) (tab_of w (show laidMetH Tryz.prog laidT w from hL)) a0 a1 (in64_of w0) (in64_of w1) a2 (by unfold maxLen at w2; omega)
end Go.Proofs.YtoeeackjlclneaaGreatDoor
