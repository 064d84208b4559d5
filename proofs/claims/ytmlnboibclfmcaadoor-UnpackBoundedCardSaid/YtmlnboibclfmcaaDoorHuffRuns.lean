/-
  The walks of refused and of HuffRuns.
-/
import Derived.Test.YtmlnboibclfmcaaDoorHuffSz
import Derived.Test.YtmlnboibclfmcaaDoorSame
namespace Go.Proofs.YtmlnboibclfmcaaDoor
open Go.RowKit

theorem Rb.new (w : World) (l : List UInt8) (hl : l.length ≤ 1000 := by decide) : Rb (w.alloc (.cells (bv l).toArray 5)) (.slice (some ⟨w.heap.size, 0, none⟩) l.length l.length) l := by
  refine Or.inr ⟨w.heap.size, 0, l.length, rfl, Nat.le_refl _, by unfold maxLen; omega, by simp, fun i hi => ?_⟩
  simp only [World.cell?, heap_new]
  simp [bv, hi]
theorem decode_of (v : Value) (l o : List UInt8) (c : Int) (w : World) (hr : Rb w v l) (hlen : l.length ≤ 100000000000) (hd : decF l = (o, c)) :
    Calls Tryd.prog 107 #[v] w fun e w' => e = .returned (.tuple #[.string ⟨o.toArray⟩, .int .i64 c]) ∧ Aft w w' := by
  have := decode_any v l w hr hlen
  rw [hd] at this
  exact this
theorem encode_of (s : ByteArray) (l : List UInt8) (w : World) (hs : s.size ≤ 100000000000) (he : encF s.data.toList = l) :
    Calls Tryd.prog 92 #[.string s] w fun e w' => ∃ v, e = .returned v ∧ Own w' w.heap.size v l ∧ Aft w w' := by
  have := encode_any s w hs
  rw [he] at this
  exact this

end Go.Proofs.YtmlnboibclfmcaaDoor
