/-
  A slice of strings that came in, as a list.
-/
import Derived.Test.YtiblkkbjnlccaaaSameS
import Derived.OpenShut
import Derived.SliceStrings
import Derived.ChangeSlices
import Derived.WideShapes
import Derived.ProofKit
import Derived.ShutString
import Derived.ChangeOld
namespace Go.Proofs.Ytiblkkbjnlccaaa
open Go.ChangeShapes Go.WideShapes Go.ChangeAt Go.RowKit

theorem cellsS : Try.prog.cellsOf 9 = 1 := by kernel_rfl
theorem has_lt {P : Program} {w : World} {r : Reach} {base : Nat} {t e : TypeId} {a : Addr} {len cap : Nat} (ht : P.underlying t = some (.slice e)) (h : Value.okWide P w r base t (.slice (some a) len cap)) : a.spot = none ∧ a.block < w.heap.size := by
  simp only [Value.okWide, ht, Cell.okWide, Cell.ok] at h
  obtain ⟨_, _, _, hs, row, cells, hsh, _⟩ := h
  refine ⟨hs, ?_⟩
  rcases Nat.lt_or_ge a.block w.heap.size with h | h
  · exact h
  · unfold World.shape? at hsh
    rw [Array.getElem?_eq_none h] at hsh
    simp at hsh
theorem open_strsRb {H : Type} {enc : TypeId × Value → H} {W : World} {base : Nat} {v : Value} {d : DataW H} {p : List MemPlace} (hval : Value.okWide Try.prog W .any base 22 v) (h : DataW.Trod enc Try.prog W 0 (fun _ => true) true 22 v d p) :
    ∃ l : List (List UInt8), RbS W v l ∧ ∀ x ∈ l, x.length ≤ maxLen := by
  obtain ⟨a1, len, cap, rfl⟩ := okWide_slice Try.underlying22 hval
  obtain ⟨fuel, hf⟩ := h
  rcases open_strings Try.underlying22 Try.underlying9 cellsS hf with ⟨hcs, hx⟩ | ⟨a, len', cap', ss, hcs, _, hl, hm, hz, hx, hcell, hsz⟩
  · simp [Value.cells] at hcs
    obtain ⟨rfl, rfl, rfl⟩ := hcs
    exact ⟨[], Or.inl ⟨rfl, rfl⟩, by simp⟩
  · simp [Value.cells] at hcs
    obtain ⟨rfl, rfl, rfl⟩ := hcs
    obtain ⟨hs, hlt⟩ := has_lt Try.underlying22 hval
    obtain ⟨ab, ao, spot⟩ := a
    subst hs
    simp only [if_true] at hz
    refine ⟨(ss.take len).map fun s => s.data.toList, Or.inr ⟨ab, ao, cap, ?_, ?_, hm, hlt, fun i hi => ?_⟩, ?_⟩
    · congr 1
      simp
      omega
    · simp
      omega
    · simp at hi
      have hcj := hcell i (by omega)
      rw [Addr.add_lit] at hcj
      rw [hcj]
      have e : ss.getD i ByteArray.empty = ss[i]'(by omega) := by simp [List.getD, List.getElem?_eq_getElem (show i < ss.length by omega)]
      rw [e]
      simp only [List.getElem_map, List.getElem_take]
      rfl
    · intro x hx
      obtain ⟨s, hs, rfl⟩ := List.mem_map.1 hx
      rw [size_len]
      exact hsz s (List.mem_of_mem_take hs)

end Go.Proofs.Ytiblkkbjnlccaaa
