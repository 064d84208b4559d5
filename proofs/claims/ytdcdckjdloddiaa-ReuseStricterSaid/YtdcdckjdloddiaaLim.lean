/-
  No field is longer than what its strings may be in the form's reach.
-/
import Derived.Test.YtdcdckjdloddiaaFl
namespace Go.Proofs.Ytdcdckjdloddiaa
open Go.RowKit

def FieldsLim (l : List FieldL) : Prop := ∀ f ∈ l, f.1.length + f.2.length ≤ 281474976710656
end Go.Proofs.Ytdcdckjdloddiaa
