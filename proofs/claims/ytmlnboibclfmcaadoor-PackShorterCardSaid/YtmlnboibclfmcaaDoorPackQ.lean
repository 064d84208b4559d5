/-
  Plain laws of blocks: rows that are not to be put into the table; rows that stand in it.
-/
import Derived.Test.YtmlnboibclfmcaaDoorPackBlk
import Derived.Test.YtmlnboibclfmcaaDoorTblP
namespace Go.Proofs.YtmlnboibclfmcaaDoor
open Go.RowKit
set_option linter.unusedVariables false

theorem rowB_keep {most : Int} {l : List FieldL} {r : RowL} (h : r.how ≠ 1) : (rowB most l r).2 = l := by
  unfold rowB
  split
  · rfl
  · first | (split <;> rfl) | (rw [if_neg h]; split <;> rfl)
theorem rowsB_keep {most : Int} : ∀ (rows : List RowL) (s : List UInt8 × List FieldL), (∀ r ∈ rows, r.how ≠ 1) → (rowsB most s rows).2 = s.2
  | [], s, _ => rfl
  | r :: rs, s, h => by
    rw [rowsB, rowsB_keep rs _ (fun x hx => h x (List.mem_cons_of_mem _ hx)), rowB_keep (h r (List.mem_cons_self ..))]
theorem addF_room {most : Int} {f : FieldL} {l : List FieldL} (h : (sumF l : Int) + (fsize f : Int) ≤ most) : addF most f l = f :: l := by
  unfold addF
  rw [if_pos (by omega), fitF_stop (Or.inr (by omega))]
theorem sumF_cons' (f : FieldL) (l : List FieldL) : sumF (f :: l) = fsize f + sumF l := by simp [sumF]
theorem find_in {l : List FieldL} {f : FieldL} (h : f ∈ staticT ++ l) : ∃ j : Nat, findF l f = ((j : Int) + 1, true) ∧ j < 61 + l.length := by
  obtain ⟨i, hi, he⟩ := List.mem_iff_getElem.1 h
  obtain ⟨j, hj, h1, -⟩ := find_there l i f (by rw [List.getElem?_eq_getElem hi, he])
  have := findF_bd l f
  rw [h1] at this
  exact ⟨j, h1, by have := this.2; simp only at this; omega⟩
theorem rowB_one {most : Int} {l : List FieldL} {r : RowL} (h1 : r.how = 1) (hs : (sumF l : Int) + (fsize r.f : Int) ≤ most) : r.f ∈ staticT ++ (rowB most l r).2 ∧ (∀ x ∈ l, x ∈ (rowB most l r).2) ∧ sumF (rowB most l r).2 ≤ sumF l + fsize r.f ∧ (rowB most l r).2.length ≤ l.length + 1 := by
  unfold rowB
  by_cases hf : (findF l r.f).2 = true ∧ r.how ≠ 3
  · rw [if_pos hf]
    refine ⟨?_, fun x hx => hx, by simp only; omega, by simp only; omega⟩
    rcases find_cases l r.f with h | ⟨j, hj, h, hg, hb⟩ | ⟨j, x, hj, h, -⟩
    · rw [h] at hf; cases hf.1
    · have : r.f ∈ staticT ++ l := by
        have e : getF l ((j : Int) + 1) = (staticT ++ l).getD j ([], []) := by
          unfold getF
          rw [if_pos (by omega), show ((j : Int) + 1 - 1).toNat = j by omega]
        rw [← hg, e]
        have hl : j < (staticT ++ l).length := by rw [List.length_append, show staticT.length = 61 from rfl]; omega
        rw [List.getD_eq_getElem?_getD, List.getElem?_eq_getElem hl]
        exact List.getElem_mem hl
      exact this
    · rw [h] at hf; cases hf.1
  · rw [if_neg hf, if_pos h1]
    simp only
    rw [addF_room hs]
    exact ⟨List.mem_append_right _ (List.mem_cons_self ..), fun x hx => List.mem_cons_of_mem _ hx, by rw [sumF_cons']; omega, by simp⟩
theorem rowsB_in {most : Int} : ∀ (rows : List RowL) (s : List UInt8 × List FieldL), (∀ r ∈ rows, r.how = 1) → (sumF s.2 : Int) + (sumR rows : Int) ≤ most →
    (∀ x ∈ s.2, x ∈ (rowsB most s rows).2) ∧ (∀ r ∈ rows, r.f ∈ staticT ++ (rowsB most s rows).2) ∧ (rowsB most s rows).2.length ≤ s.2.length + rows.length
  | [], s, _, _ => ⟨fun x hx => hx, (fun r hr => by cases hr), Nat.le_refl _⟩
  | r :: rs, s, h, hm => by
    rw [sumR_cons] at hm
    have hz : fsize r.f = r.f.1.length + r.f.2.length + 32 := rfl
    obtain ⟨a1, a2, a3, a4⟩ := rowB_one (most := most) (l := s.2) (h r (List.mem_cons_self ..)) (by rw [hz]; omega)
    have hs2 : (sumF (rowB most s.2 r).2 : Int) + (sumR rs : Int) ≤ most := by rw [hz] at a3; omega
    obtain ⟨b1, b2, b3⟩ := rowsB_in rs (s.1 ++ (rowB most s.2 r).1, (rowB most s.2 r).2) (fun x hx => h x (List.mem_cons_of_mem _ hx)) hs2
    rw [rowsB]
    refine ⟨fun x hx => b1 x (a2 x hx), fun x hx => ?_, Nat.le_trans b3 (by rw [List.length_cons]; show (rowB most s.2 r).2.length + rs.length ≤ _; omega)⟩
    rcases List.mem_cons.1 hx with rfl | hx
    · rcases List.mem_append.1 a1 with h9 | h9
      · exact List.mem_append_left _ h9
      · exact List.mem_append_right _ (b1 _ h9)
    · exact b2 x hx
theorem rowsB_known {most : Int} : ∀ (rows : List RowL) (s : List UInt8 × List FieldL), (∀ r ∈ rows, r.how = 1) → (∀ r ∈ rows, r.f ∈ staticT ++ s.2) → s.2.length ≤ 60 → (rowsB most s rows).1.length = s.1.length + rows.length
  | [], s, _, _, _ => rfl
  | r :: rs, s, h, hk, hl => by
    obtain ⟨j, hj, hlt⟩ := find_in (hk r (List.mem_cons_self ..))
    have hb : rowB most s.2 r = (pintL 7 128 (j + 1), s.2) := by
      unfold rowB
      rw [hj, if_pos ⟨rfl, by rw [h r (List.mem_cons_self ..)]; decide⟩]
      simp only
      congr 2
    rw [rowsB, hb]
    rw [rowsB_known rs (s.1 ++ pintL 7 128 (j + 1), s.2) (fun x hx => h x (List.mem_cons_of_mem _ hx)) (fun x hx => hk x (List.mem_cons_of_mem _ hx)) hl]
    rw [pintL_small (by show j + 1 < 127; omega)]
    simp
    omega
end Go.Proofs.YtmlnboibclfmcaaDoor
