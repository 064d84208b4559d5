/-
  PackBound: the walk, at what came in.
-/
import Derived.Test.YtmlnboibclfmcaaDoorArgNR
import Derived.Test.YtmlnboibclfmcaaDoorPackBd
namespace Go.Proofs.YtmlnboibclfmcaaDoor
open Go.ChangeShapes Go.WideShapes Go.ChangeAt Go.RowKit
set_option linter.unusedVariables false

set_option maxRecDepth 100000 in
theorem walkPackBound (w : World) (hsh : w.ShapedOpen Tryd.prog) {H : Type} {enc : TypeId × Value → H} {base : Nat} {v0 : Value} {d0 : DataW H} {p0 : List MemPlace}
    (hval0 : Value.okWide Tryd.prog w .any base 59 v0) (k0 : DataW.Trod enc Tryd.prog w 0 (fun _ => true) true 59 v0 d0 p0) (hk : (DataW.weightsEach Tryd.prog [59] [d0]).all (· ≤ reachBytes) = true) :
    Calls Tryd.prog 12 #[v0] w fun e w' => e = .returned (.bool true) ∧ Aft w w' := by
  obtain ⟨l, hr, hb, -⟩ := open_rowsR hval0 k0 (wt_at hk (j := 0) rfl rfl)
  exact packbound_any v0 l w (maxOk_of w hsh) hr hb

end Go.Proofs.YtmlnboibclfmcaaDoor
