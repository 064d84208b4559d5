/-
  The closed sentence of chapter 4.
-/
import Derived.Test.YtdilaommhflcoaaHuffRuns
namespace Go.Proofs.Ytdilaommhflcoaa
open Go.RowKit
theorem walkHuffRuns (w : World) : Calls Try.prog 3 #[] w fun e w' => e = .returned (.bool true) ∧ Aft w w' := huffruns_any w
end Go.Proofs.Ytdilaommhflcoaa
