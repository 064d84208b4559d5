/-
  The library's variable that strings.Split wants, at a world that is shaped.
-/
import Derived.Test.YtmlnboibclfmcaaDoorFldAll
namespace Go.Proofs.YtmlnboibclfmcaaDoor
open Go.RowKit

theorem maxOk_of (w : World) (h : w.ShapedOpen Tryd.prog) : MaxOk w :=
  Go.Proofs.cell_of_shapedOpen_int (zero := #[.int .i64 0]) (t := 3) h (of_decide_eq_true (by kernel_rfl)) (by kernel_rfl) rfl (by kernel_rfl) (by kernel_rfl) Tryd.underlying3

end Go.Proofs.YtmlnboibclfmcaaDoor
