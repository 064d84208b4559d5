/-
  How many bytes a text's code has.
-/
import Derived.Test.YtmlnboibclfmcaaDoorHuffBits3
namespace Go.Proofs.YtmlnboibclfmcaaDoor
open Go.RowKit

theorem encBits_sum (l : List UInt8) : ((encBits l).length : Int) = sizeSum l := by
  induction l with
  | nil => rfl
  | cons x l ih =>
    have e : encBits (x :: l) = symBits x ++ encBits l := by simp [encBits]
    have hx := x.toNat_lt
    have e2 : sizeSum (x :: l) = Hp.lenF (x.toNat : Int) + sizeSum l := by simp [sizeSum]
    rw [e, e2, List.length_append, lenF_nat _ (by omega)]
    unfold symBits
    rw [low_len]
    omega
theorem sizeF_len (l : List UInt8) : sizeF l = ((encF l).length : Int) := by
  obtain ⟨p, hp, h⟩ := encF_bits l
  have h1 := congrArg List.length h
  rw [List.length_append, BB_len] at h1
  simp only [ones, List.length_replicate] at h1
  have := encBits_sum l
  unfold sizeF
  omega

end Go.Proofs.YtmlnboibclfmcaaDoor
