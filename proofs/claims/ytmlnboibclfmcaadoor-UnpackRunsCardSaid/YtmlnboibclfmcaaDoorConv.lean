/-
  A new slice of one or two bytes, turned into a string.
-/
import Derived.Test.YtmlnboibclfmcaaDoorBase
namespace Go.Proofs.YtmlnboibclfmcaaDoor
open Go.RowKit

theorem byteOf_toNat {n : Int} (h0 : 0 ≤ n) (h1 : n < 256) : ((byteOf n).toNat : Int) = n := by
  unfold byteOf
  rw [UInt8.toNat_ofNat']
  omega

theorem conv1 (w : World) (b : Int) (h0 : 0 ≤ b) (h1 : b < 256) :
    (convert 54 9 (.slice (some ⟨w.heap.size, 0, none⟩) 1 1)).run Tryd.prog (w.alloc (.cells #[.int .u8 b] 5)) = .ok (.string ⟨#[byteOf b]⟩) (w.alloc (.cells #[.int .u8 b] 5)) := by
  have h := run_convert_bytes_back (P := Tryd.prog) (w.alloc (.cells #[.int .u8 b] 5)) 54 9 5 ⟨w.heap.size, 0, none⟩ 1 [byteOf b] Tryd.underlying54 Tryd.underlying5 Tryd.underlying9 (by
    intro j hj
    have : j = 0 := by simpa using hj
    subst this
    show _ = some (Value.int .u8 ((byteOf b).toNat : Int))
    rw [byteOf_toNat h0 h1]
    simp [go_sem, Addr.add])
  exact h

theorem conv1_at (b : Int) (h0 : 0 ≤ b) (h1 : b < 256) (W : World) (a : Addr) (cap : Nat) (hc : W.cell? a = some (.int .u8 b)) :
    (convert 54 9 (.slice (some a) 1 cap)).run Tryd.prog W = .ok (.string ⟨#[byteOf b]⟩) W := by
  exact run_convert_bytes_back (P := Tryd.prog) W 54 9 5 a cap [byteOf b] Tryd.underlying54 Tryd.underlying5 Tryd.underlying9 (by
    intro j hj
    have : j = 0 := by simpa using hj
    subst this
    show _ = some (Value.int .u8 ((byteOf b).toNat : Int))
    rw [byteOf_toNat h0 h1]
    simpa [Addr.add] using hc)

theorem conv2 (w : World) (a b : Int) (a0 : 0 ≤ a) (a1 : a < 256) (h0 : 0 ≤ b) (h1 : b < 256) :
    (convert 54 9 (.slice (some ⟨w.heap.size, 0, none⟩) 2 2)).run Tryd.prog (w.alloc (.cells #[.int .u8 a, .int .u8 b] 5)) = .ok (.string ⟨#[byteOf a, byteOf b]⟩) (w.alloc (.cells #[.int .u8 a, .int .u8 b] 5)) := by
  have h := run_convert_bytes_back (P := Tryd.prog) (w.alloc (.cells #[.int .u8 a, .int .u8 b] 5)) 54 9 5 ⟨w.heap.size, 0, none⟩ 2 [byteOf a, byteOf b] Tryd.underlying54 Tryd.underlying5 Tryd.underlying9 (by
    intro j hj
    have : j = 0 ∨ j = 1 := by simp at hj; omega
    rcases this with rfl | rfl
    · show _ = some (Value.int .u8 ((byteOf a).toNat : Int))
      rw [byteOf_toNat a0 a1]
      simp [go_sem, Addr.add]
    · show _ = some (Value.int .u8 ((byteOf b).toNat : Int))
      rw [byteOf_toNat h0 h1]
      simp [go_sem, Addr.add])
  exact h

end Go.Proofs.YtmlnboibclfmcaaDoor
