/-
  The lengths of HPACK's Huffman code, as a plain list.
-/
import Derived.Test.YtmlnboibclfmcaaDoorBase
namespace Go.Proofs.YtmlnboibclfmcaaDoor.Hp

def lensL : List Nat := [13, 23, 28, 28, 28, 28, 28, 28, 28, 24, 30, 28, 28, 30, 28, 28, 28, 28, 28, 28, 28, 28, 30, 28, 28, 28, 28, 28, 28, 28, 28, 28, 6, 10, 10, 12, 13, 6, 8, 11, 10, 10, 8, 11, 8, 6, 6, 6, 5, 5, 5, 6, 6, 6, 6, 6, 6, 6, 7, 8, 15, 6, 12, 10, 13, 6, 7, 7, 7, 7, 7, 7, 7, 7, 7, 7, 7, 7, 7, 7, 7, 7, 7, 7, 7, 7, 7, 7, 8, 7, 8, 13, 19, 13, 14, 6, 15, 5, 6, 5, 6, 5, 6, 6, 6, 5, 7, 7, 6, 6, 6, 5, 6, 7, 6, 5, 5, 6, 7, 7, 7, 7, 7, 15, 11, 14, 13, 28, 20, 22, 20, 20, 22, 22, 22, 23, 22, 23, 23, 23, 23, 23, 24, 23, 24, 24, 22, 23, 24, 23, 23, 23, 23, 21, 22, 23, 22, 23, 23, 24, 22, 21, 20, 22, 22, 23, 23, 21, 23, 22, 22, 24, 21, 22, 23, 23, 21, 21, 22, 21, 23, 22, 23, 23, 20, 22, 22, 22, 23, 22, 22, 23, 26, 26, 20, 19, 22, 23, 22, 25, 26, 26, 26, 27, 27, 26, 24, 25, 19, 21, 26, 27, 27, 26, 27, 24, 21, 21, 26, 26, 28, 27, 27, 27, 20, 24, 20, 21, 22, 21, 21, 23, 22, 22, 25, 25, 24, 24, 26, 23, 26, 27, 26, 26, 27, 27, 27, 27, 27, 28, 27, 27, 27, 27, 27, 26, 30]
def lenF (s : Int) : Int := if s < 0 ∨ 257 ≤ s then 0 else (lensL.getD s.toNat 0 : Nat)
theorem lensL_len : lensL.length = 257 := by decide +kernel
theorem lensL_bd : ∀ i, i < 257 → 5 ≤ lensL.getD i 0 ∧ lensL.getD i 0 ≤ 30 := by decide +kernel
theorem lenF_bd (s : Int) (h0 : 0 ≤ s) (h1 : s ≤ 256) : 5 ≤ lenF s ∧ lenF s ≤ 30 := by
  unfold lenF
  rw [if_neg (by omega)]
  have := lensL_bd s.toNat (by omega)
  omega

end Go.Proofs.YtmlnboibclfmcaaDoor.Hp
