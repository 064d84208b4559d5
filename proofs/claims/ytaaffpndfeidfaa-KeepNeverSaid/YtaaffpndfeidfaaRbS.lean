/-
  Slices of strings that can be read.
-/
import Derived.Test.YtaaffpndfeidfaaStrs
namespace Go.Proofs.Ytaaffpndfeidfaa
open Go.RowKit

/-- The slice v of strings can be read: its elements are l. -/
def RbS (w : World) (v : Value) (l : List (List UInt8)) : Prop :=
  (v = .slice none 0 0 ∧ l = []) ∨ ∃ b off cap, v = .slice (some ⟨b, off, none⟩) l.length cap ∧ l.length ≤ cap ∧ cap ≤ maxLen ∧ b < w.heap.size ∧ ∀ i (h : i < l.length), w.cell? ⟨b, off + i, none⟩ = some (strV l[i])
theorem RbS.aft {w w' : World} {v : Value} {l : List (List UInt8)} (h : RbS w v l) (ha : Aft w w') : RbS w' v l := by
  rcases h with h | ⟨b, off, cap, a, b1, b2, c, d⟩
  · exact Or.inl h
  · refine Or.inr ⟨b, off, cap, a, b1, b2, Nat.lt_of_lt_of_le c ha.size, fun i hi => ?_⟩
    rw [Below.cell ha.to (p := ⟨b, off + i, none⟩) c]
    exact d i hi
theorem OwnS.rb {w : World} {base : Nat} {v : Value} {l : List (List UInt8)} (h : OwnS w base v l) : RbS w v l := by
  rcases id h.2 with ⟨e, h0⟩ | ⟨g, cap, cur, e, _, _, h1, h2, _⟩
  · exact Or.inl ⟨e, List.eq_nil_of_length_eq_zero h0⟩
  · refine Or.inr ⟨g, 0, cap, e, h1, h2, (h.lt g (by rw [e]; rfl)).2, fun i hi => ?_⟩
    subst e
    have hx := World.ownsRow.cellAt h i (by omega)
    rw [show (0 : Nat) + i = i by omega, hx]
    unfold sv
    rw [List.getElem?_map, List.getElem?_eq_getElem hi]
    rfl
theorem RbS.new (w : World) (l : List (List UInt8)) (hl : l.length ≤ 1000 := by decide) : RbS (w.alloc (.cells (sv l).toArray 9)) (.slice (some ⟨w.heap.size, 0, none⟩) l.length l.length) l := by
  refine Or.inr ⟨w.heap.size, 0, l.length, rfl, Nat.le_refl _, by unfold maxLen; omega, by simp, fun i hi => ?_⟩
  rw [cell_of_row (w.alloc (.cells (sv l).toArray 9)) w.heap.size (0 + i) _ _ (0, 0) (heap_alloc_new w _)]
  simp [sv, hi]
theorem RbS.open {w : World} {v : Value} {l : List (List UInt8)} (h : RbS w v l) : ∃ (a : Option Addr) (cap : Nat) (b off : Nat), v = .slice a l.length cap ∧ l.length ≤ maxLen ∧ (l ≠ [] → a = some ⟨b, off, none⟩) ∧ (l ≠ [] → b < w.heap.size) ∧ ∀ i (h : i < l.length), w.cell? ⟨b, off + i, none⟩ = some (strV l[i]) := by
  rcases h with ⟨rfl, rfl⟩ | ⟨b, off, cap, rfl, h1, h2, h3, h4⟩
  · exact ⟨none, 0, 0, 0, rfl, by simp, fun h => absurd rfl h, fun h => absurd rfl h, fun i h => by simp at h⟩
  · exact ⟨_, cap, b, off, rfl, Nat.le_trans h1 h2, fun _ => rfl, fun _ => h3, h4⟩

end Go.Proofs.Ytaaffpndfeidfaa
