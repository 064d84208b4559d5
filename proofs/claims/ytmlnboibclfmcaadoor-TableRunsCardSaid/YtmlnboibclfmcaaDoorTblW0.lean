/-
  TableRuns, as the frame wants it.
-/
import Derived.Test.YtmlnboibclfmcaaDoorTblRuns
import Derived.Test.YtmlnboibclfmcaaDoorMaxOk
namespace Go.Proofs.YtmlnboibclfmcaaDoor
open Go.RowKit

theorem walkTableRuns (w : World) (hsh : w.ShapedOpen Tryd.prog) : Calls Tryd.prog 3 #[] w fun e w' => e = .returned (.bool true) ∧ Aft w w' :=
  tblruns_any w (maxOk_of w hsh)

end Go.Proofs.YtmlnboibclfmcaaDoor
