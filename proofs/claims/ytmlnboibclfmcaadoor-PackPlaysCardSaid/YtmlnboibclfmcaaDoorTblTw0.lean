/-
  Blocks of fields, kept; two cells of a field.
-/
import Derived.Test.YtmlnboibclfmcaaDoorTbl4
import Derived.Test.YtmlnboibclfmcaaDoorTblP
import Derived.Test.YtmlnboibclfmcaaDoorArgA
import Derived.Test.YtmlnboibclfmcaaDoorMaxOk
import Derived.Test.YtmlnboibclfmcaaDoorWithin
import Derived.Deep.QuietTactic
import Derived.BigQuiet
namespace Go.Proofs.YtmlnboibclfmcaaDoor
open Go.ChangeShapes Go.WideShapes Go.ChangeAt Go.RowKit
set_option linter.unusedVariables false

theorem Aft.chg {p : Nat → Prop} {w a b : World} (h : Aft w a) (hc : Chg p a b) (hp : ∀ k, p k → w.heap.size ≤ k) : Aft w b :=
  ⟨hc.os.trans h.os, hc.tape.trans h.tape, hc.output.trans h.output, Nat.le_trans h.size hc.size, fun k hk => by
    rw [hc.block k (Nat.lt_of_lt_of_le hk h.size) (fun hpk => by have := hp k hpk; omega)]
    exact h.block k hk⟩
theorem FB.aft {w w' : World} {g : Nat} {l : List FieldL} (h : FB w g l) (ha : Aft w w') : FB w' g l := (Below.block ha.to g h.lt).trans h
theorem FB.chg {p : Nat → Prop} {w w' : World} {g : Nat} {l : List FieldL} (h : FB w g l) (hc : Chg p w w') (hp : ¬ p g) : FB w' g l := (hc.block g h.lt hp).trans h

def FB2 (w : World) (g : Nat) (X Y : ByteArray) : Prop := w.heap[g]? = some (.cells #[.string X, .string Y] 28 (0, 0))
theorem FB2.aft {w w' : World} {g : Nat} {X Y : ByteArray} (h : FB2 w g X Y) (ha : Aft w w') : FB2 w' g X Y := by
  unfold FB2
  have hlt : g < w.heap.size := by
    rcases Nat.lt_or_ge g w.heap.size with h1 | h1
    · exact h1
    · unfold FB2 at h; rw [Array.getElem?_eq_none h1] at h; cases h
  rw [Below.block ha.to g hlt]
  exact h
theorem FB2.cells {w : World} {g : Nat} {X Y : ByteArray} (h : FB2 w g X Y) : w.cell? ⟨g, 0, none⟩ = some (.string X) ∧ w.cell? ⟨g, 1, none⟩ = some (.string Y) := by
  unfold FB2 at h
  exact ⟨by rw [cell_of_row w g _ _ _ (0, 0) h]; rfl, by rw [cell_of_row w g _ _ _ (0, 0) h]; rfl⟩
end Go.Proofs.YtmlnboibclfmcaaDoor
