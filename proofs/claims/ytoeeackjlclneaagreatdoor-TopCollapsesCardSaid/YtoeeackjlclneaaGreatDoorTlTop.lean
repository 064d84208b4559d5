/-
  TopCollapses from the row's own conditions.
-/
import Derived.Test.YtoeeackjlclneaaGreatDoorTlWalk
import Derived.OpenShut
import Derived.Lib.LaidTab
import Derived.LaidSub
import Derived.MakeChecks
namespace Go.Proofs.YtoeeackjlclneaaGreatDoor
open Go.RowKit
set_option linter.unusedVariables false

def laidA : List (String × DataW Unit) := Rows.topCollapsesRow.laid
def isPow (x : String × DataW Unit) : Bool := x.1 == "internal/strconv.uint64pow10"
theorem laid_pow : laidA.filter isPow = [("internal/strconv.uint64pow10", Lib.tabData .u64 Lib.pow10Tab)] := by kernel_rfl
theorem tab_of (w : World) (hL : laidMetH Tryz.prog laidA w) : Lib.TabIs Tryz.prog w "internal/strconv.uint64pow10" .u64 Lib.pow10Tab := by
  have h1 := laidMetH.filter isPow hL
  rw [laid_pow, MakeChecks.laidMetH_plain _ _ _ (by kernel_rfl)] at h1
  exact Lib.tabIs_of_head (g := 0) (t := 231) (e := 185) (n := 20) (by kernel_rfl) (by kernel_rfl) Tryz.underlying231 Tryz.underlying185 (by kernel_rfl) (by kernel_rfl) h1
theorem in64_of {x : Int} (h : (Lit.int .i64 x).wf = true) : In64 x := by
  obtain ⟨h1, h2⟩ := bounds_i64 h
  exact ⟨h1, h2⟩
theorem walkTopCollapses (w : World) (hL : laidMetH Tryz.prog Rows.topCollapsesRow.laid w) (hsh : w.ShapedOpen Tryz.prog) (a0 : Int) (w0 : (Lit.int .i64 a0).wf = true) (a1 : Int) (w1 : (Lit.int .i64 a1).wf = true) (a2 : ByteArray) (w2 : a2.size ≤ maxLen) :
    Calls Tryz.prog 4 #[.int .i64 a0, .int .i64 a1, .string a2] w fun e w' => e = .returned (.bool true) ∧ Aft w w' :=
  walk_collapses w (maxOk_of w hsh) (tab_of w (show laidMetH Tryz.prog laidA w from hL)) a0 a1 (in64_of w0) (in64_of w1) a2 (by unfold maxLen at w2; omega)
end Go.Proofs.YtoeeackjlclneaaGreatDoor
