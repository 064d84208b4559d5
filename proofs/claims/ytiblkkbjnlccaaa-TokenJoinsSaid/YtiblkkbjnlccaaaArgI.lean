/-
  A slice of numbers that came in, as a list.
-/
import Derived.Test.YtiblkkbjnlccaaaArgS
namespace Go.Proofs.Ytiblkkbjnlccaaa
open Go.ChangeShapes Go.WideShapes Go.ChangeAt Go.RowKit

theorem cellsI : Try.prog.cellsOf 3 = 1 := by kernel_rfl
def RbI (w : World) (v : Value) (l : List Int) : Prop :=
  (v = .slice none 0 0 ∧ l = []) ∨ ∃ b off cap, v = .slice (some ⟨b, off, none⟩) l.length cap ∧ l.length ≤ cap ∧ cap ≤ maxLen ∧ b < w.heap.size ∧ ∀ i (h : i < l.length), w.cell? ⟨b, off + i, none⟩ = some (.int .i64 l[i])
theorem RbI.open {w : World} {v : Value} {l : List Int} (h : RbI w v l) : ∃ (a : Option Addr) (cap : Nat) (b off : Nat), v = .slice a l.length cap ∧ l.length ≤ maxLen ∧ (l ≠ [] → a = some ⟨b, off, none⟩) ∧ (l ≠ [] → b < w.heap.size) ∧ ∀ i (h : i < l.length), w.cell? ⟨b, off + i, none⟩ = some (.int .i64 l[i]) := by
  rcases h with ⟨rfl, rfl⟩ | ⟨b, off, cap, rfl, h1, h2, h3, h4⟩
  · exact ⟨none, 0, 0, 0, rfl, by simp, fun h => absurd rfl h, fun h => absurd rfl h, fun i h => by simp at h⟩
  · exact ⟨_, cap, b, off, rfl, Nat.le_trans h1 h2, fun _ => rfl, fun _ => h3, h4⟩
theorem open_intsRb {H : Type} {enc : TypeId × Value → H} {W : World} {base : Nat} {v : Value} {d : DataW H} {p : List MemPlace} (hval : Value.okWide Try.prog W .any base 35 v) (h : DataW.Trod enc Try.prog W 0 (fun _ => true) true 35 v d p) :
    ∃ l : List Int, RbI W v l ∧ ∀ x ∈ l, -9223372036854775808 ≤ x ∧ x ≤ 9223372036854775807 := by
  obtain ⟨a1, len, cap, rfl⟩ := okWide_slice Try.underlying35 hval
  obtain ⟨fuel, hf⟩ := h
  rcases open_ints Try.underlying35 Try.underlying3 cellsI hf with ⟨hcs, hx⟩ | ⟨a, len', cap', zs, hcs, _, hl, hm, hz, hx, hcell, hwz⟩
  · simp [Value.cells] at hcs
    obtain ⟨rfl, rfl, rfl⟩ := hcs
    exact ⟨[], Or.inl ⟨rfl, rfl⟩, by simp⟩
  · simp [Value.cells] at hcs
    obtain ⟨rfl, rfl, rfl⟩ := hcs
    obtain ⟨hs, hlt⟩ := has_lt Try.underlying35 hval
    obtain ⟨ab, ao, spot⟩ := a
    subst hs
    simp only [if_true] at hz
    refine ⟨zs.take len, Or.inr ⟨ab, ao, cap, ?_, ?_, hm, hlt, fun i hi => ?_⟩, ?_⟩
    · congr 1
      simp
      omega
    · simp
      omega
    · simp at hi
      have hcj := hcell i (by omega)
      rw [Addr.add_lit] at hcj
      rw [hcj]
      have e : zs.getD i 0 = zs[i]'(by omega) := by simp [List.getD, List.getElem?_eq_getElem (show i < zs.length by omega)]
      rw [e]
      simp only [List.getElem_take]
    · intro x hx
      exact bounds_i64 (hwz x (List.mem_of_mem_take hx))

end Go.Proofs.Ytiblkkbjnlccaaa
