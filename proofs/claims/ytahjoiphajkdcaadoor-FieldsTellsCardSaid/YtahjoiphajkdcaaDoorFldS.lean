/-
  The static table's fields by their numbers.
-/
import Derived.Test.YtahjoiphajkdcaaDoorFldB
namespace Go.Proofs.YtahjoiphajkdcaaDoor
open Go.RowKit

def statF (i : Int) : FieldL := if 1 ≤ i ∧ i ≤ 61 then staticT.getD (i - 1).toNat ([], []) else ([], [])
def statB (i : Int) : Bool := decide (1 ≤ i ∧ i ≤ 61)
theorem statF_out {i : Int} (h : ¬ (1 ≤ i ∧ i ≤ 61)) : statF i = ([], []) ∧ statB i = false := by
  unfold statF statB
  rw [if_neg h]
  exact ⟨rfl, by simpa using h⟩
theorem statF_in (j : Nat) (h : j < 61) : (∃ hl : j < staticT.length, statF ((j : Int) + 1) = staticT[j]'hl) ∧ statB ((j : Int) + 1) = true := by
  have hl : j < staticT.length := by rw [staticT_len]; exact h
  unfold statF statB
  rw [if_pos (by omega)]
  refine ⟨⟨hl, ?_⟩, by simp; omega⟩
  have : ((j : Int) + 1 - 1).toNat = j := by omega
  rw [this, List.getD_eq_getElem?_getD, List.getElem?_eq_getElem hl]
  rfl

end Go.Proofs.YtahjoiphajkdcaaDoor
