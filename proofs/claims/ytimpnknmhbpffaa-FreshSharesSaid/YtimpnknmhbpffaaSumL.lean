/-
  The sum that Light takes of fields.
-/
import Derived.Test.YtimpnknmhbpffaaFl
namespace Go.Proofs.Ytimpnknmhbpffaa
open Go.RowKit

def sumL (l : List FieldL) : Nat := (l.map fun f => f.1.length + f.2.length + 1).sum
theorem sumL_cons (f : FieldL) (l : List FieldL) : sumL (f :: l) = f.1.length + f.2.length + 1 + sumL l := by simp [sumL]
theorem sumL_append (a b : List FieldL) : sumL (a ++ b) = sumL a + sumL b := by simp [sumL]
theorem sumL_take (l : List FieldL) (k : Nat) : sumL (l.take k) ≤ sumL l := by
  have : sumL (l.take k) + sumL (l.drop k) = sumL l := by rw [← sumL_append, List.take_append_drop]
  omega
theorem sumL_mem {f : FieldL} {l : List FieldL} (h : f ∈ l) : f.1.length + f.2.length + 1 ≤ sumL l := by
  induction l with
  | nil => simp at h
  | cons g l ih =>
    rw [sumL_cons]
    rcases List.mem_cons.1 h with rfl | h
    · omega
    · have := ih h; omega
theorem sumL_len (l : List FieldL) : l.length ≤ sumL l := by
  induction l with
  | nil => simp
  | cons f l ih => rw [sumL_cons, List.length_cons]; omega

end Go.Proofs.Ytimpnknmhbpffaa
