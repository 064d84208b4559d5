/-
  Small facts on a new block.
-/
import Derived.Test.YtmlnboibclfmcaaDoorBase
import Derived.OwnWalk
import Derived.Laws.AppendOwnNone
namespace Go.Proofs.YtmlnboibclfmcaaDoor
open Go.RowKit

theorem cell_new1 (w : World) (v : Value) (t : TypeId) : (w.alloc (.cells #[v] t)).cell? ⟨w.heap.size, 0, none⟩ = some v := by simp [go_sem]
theorem le_alloc {w : World} {n : Nat} (h : n ≤ w.heap.size) (o : Obj) : n ≤ (w.alloc o).heap.size := by rw [World.size_alloc]; exact Nat.le_succ_of_le h
end Go.Proofs.YtmlnboibclfmcaaDoor
