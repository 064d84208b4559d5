/-
  A text as a quoted one.
-/
import Derived.Test.YtimpnknmhbpffaaTokLawT
namespace Go.Proofs.Ytimpnknmhbpffaa
open Go.RowKit

def escC (c : UInt8) : List UInt8 := if c = 34 ∨ c = 92 then [92, c] else [c]
def escL (l : List UInt8) : List UInt8 := l.flatMap escC
def quoL (l : List UInt8) : List UInt8 := 34 :: (escL l ++ [34])
theorem escL_snoc (l : List UInt8) (c : UInt8) : escL (l ++ [c]) = escL l ++ escC c := by simp [escL]
theorem escC_len (c : UInt8) : (escC c).length ≤ 2 := by unfold escC; split <;> simp
theorem str_append (a b : ByteArray) : (a ++ b).data.toList = a.data.toList ++ b.data.toList := by rw [ByteArray.data_append, Array.toList_append]
def quores (l : List UInt8) : Value := if l.all plainB then .tuple #[.string ⟨(quoL l).toArray⟩, .bool true] else .tuple #[.string ⟨#[]⟩, .bool false]
theorem plain_int (n : Int) (c : UInt8) (h : (c.toNat : Int) = n) : plainB c = ((decide (32 ≤ n) && (n != 127)) || (n == 9)) := by
  unfold plainB
  rw [h]

end Go.Proofs.Ytimpnknmhbpffaa
