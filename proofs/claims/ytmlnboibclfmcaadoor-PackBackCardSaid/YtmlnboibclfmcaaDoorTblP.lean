/-
  What Find tells, in plain lists.
-/
import Derived.Test.YtmlnboibclfmcaaDoorTbl4
namespace Go.Proofs.YtmlnboibclfmcaaDoor
open Go.RowKit

theorem findGo_mem (f : FieldL) : ∀ (L : List FieldL) (a : Nat) (nm : Int) (i : Nat), L[i]? = some f → ∃ j, j ≤ i ∧ L[j]? = some f ∧ findGo f a nm L = (((a + j : Nat) : Int) + 1, true)
  | [], _, _, i, h => by simp at h
  | x :: r, a, nm, i, h => by
    by_cases hx : x = f
    · exact ⟨0, Nat.zero_le _, by simp [hx], by rw [findGo_eq hx]; rfl⟩
    · cases i with
      | zero => exact absurd (by simpa using h) hx
      | succ i =>
        have key : ∀ nm', ∃ j, j ≤ i + 1 ∧ (x :: r)[j]? = some f ∧ findGo f (a + 1) nm' r = (((a + j : Nat) : Int) + 1, true) := fun nm' => by
          obtain ⟨j, h1, h2, h3⟩ := findGo_mem f r (a + 1) nm' i (by simpa using h)
          exact ⟨j + 1, by omega, by simpa using h2, by rw [h3]; congr 1; push_cast; omega⟩
        by_cases hn : x.1 = f.1 ∧ nm = 0
        · rw [findGo_nm hx hn.1 hn.2]; exact key _
        · rw [findGo_no hx hn]; exact key _
theorem findGo_not (f : FieldL) : ∀ (L : List FieldL) (a : Nat) (nm : Int), f ∉ L → (findGo f a nm L).2 = false ∧ (((findGo f a nm L).1 = nm ∧ (nm ≠ 0 ∨ ∀ x ∈ L, x.1 ≠ f.1)) ∨ ∃ j x, L[j]? = some x ∧ x.1 = f.1 ∧ (findGo f a nm L).1 = ((a + j : Nat) : Int) + 1)
  | [], _, nm, _ => ⟨rfl, Or.inl ⟨rfl, Or.inr (by intro x hx; simp at hx)⟩⟩
  | x :: r, a, nm, h => by
    have hx : x ≠ f := fun e => h (by simp [e])
    have hr : f ∉ r := fun e => h (by simp [e])
    by_cases hn : x.1 = f.1 ∧ nm = 0
    · rw [findGo_nm hx hn.1 hn.2]
      obtain ⟨h1, h2⟩ := findGo_not f r (a + 1) ((a : Int) + 1) hr
      refine ⟨h1, Or.inr ?_⟩
      rcases h2 with ⟨h3, _⟩ | ⟨j, y, h3, h4, h5⟩
      · exact ⟨0, x, by simp, hn.1, by rw [h3]; rfl⟩
      · exact ⟨j + 1, y, by simpa using h3, h4, by rw [h5]; push_cast; omega⟩
    · rw [findGo_no hx hn]
      obtain ⟨h1, h2⟩ := findGo_not f r (a + 1) nm hr
      refine ⟨h1, ?_⟩
      rcases h2 with ⟨h3, h4⟩ | ⟨j, y, h3, h4, h5⟩
      · refine Or.inl ⟨h3, ?_⟩
        by_cases h0 : nm = 0
        · right
          intro y hy
          rcases List.mem_cons.1 hy with rfl | hy
          · exact fun e => hn ⟨e, h0⟩
          · rcases h4 with h4 | h4
            · exact absurd h0 h4
            · exact h4 y hy
        · exact Or.inl h0
      · exact Or.inr ⟨j + 1, y, by simpa using h3, h4, by rw [h5]; push_cast; omega⟩
theorem getF_at (l : List FieldL) (j : Nat) (x : FieldL) (h : (staticT ++ l)[j]? = some x) : getF l ((j : Int) + 1) = x ∧ getB l ((j : Int) + 1) = true ∧ j < 61 + l.length := by
  have hl : j < (staticT ++ l).length := (List.getElem?_eq_some_iff.1 h).1
  rw [List.length_append, staticT_len] at hl
  refine ⟨?_, by unfold getB; simp; omega, hl⟩
  unfold getF
  rw [if_pos (by omega), show ((j : Int) + 1 - 1).toNat = j by omega, List.getD_eq_getElem?_getD, h]
  rfl
theorem at_get (l : List FieldL) (i : Nat) (h : i < 61 + l.length) : ∃ x, (staticT ++ l)[i]? = some x :=
  ⟨_, List.getElem?_eq_getElem (by rw [List.length_append, staticT_len]; exact h)⟩
/-- What Find tells of a field that is there. -/
theorem find_there (l : List FieldL) (i : Nat) (x : FieldL) (h : (staticT ++ l)[i]? = some x) : ∃ j : Nat, j ≤ i ∧ findF l x = ((j : Int) + 1, true) ∧ getF l ((j : Int) + 1) = x ∧ getB l ((j : Int) + 1) = true := by
  obtain ⟨j, h1, h2, h3⟩ := findGo_mem x (staticT ++ l) 0 0 i h
  rw [Nat.zero_add] at h3
  exact ⟨j, h1, h3, (getF_at l j x h2).1, (getF_at l j x h2).2.1⟩
/-- What Find tells of any field. -/
theorem find_cases (l : List FieldL) (f : FieldL) : (findF l f = (0, false)) ∨ (∃ j : Nat, j < 61 + l.length ∧ findF l f = ((j : Int) + 1, true) ∧ getF l ((j : Int) + 1) = f ∧ getB l ((j : Int) + 1) = true) ∨ (∃ (j : Nat) (x : FieldL), j < 61 + l.length ∧ findF l f = ((j : Int) + 1, false) ∧ getF l ((j : Int) + 1) = x ∧ getB l ((j : Int) + 1) = true ∧ x.1 = f.1 ∧ x ≠ f) := by
  by_cases hm : f ∈ staticT ++ l
  · obtain ⟨i, hi, he⟩ := List.mem_iff_getElem.1 hm
    have hi2 : (staticT ++ l)[i]? = some f := by rw [List.getElem?_eq_getElem hi, he]
    obtain ⟨j, h1, h2, h3⟩ := findGo_mem f (staticT ++ l) 0 0 i hi2
    rw [Nat.zero_add] at h3
    exact Or.inr (Or.inl ⟨j, (getF_at l j f h2).2.2, h3, (getF_at l j f h2).1, (getF_at l j f h2).2.1⟩)
  · obtain ⟨h1, h2⟩ := findGo_not f (staticT ++ l) 0 0 hm
    rcases h2 with ⟨h3, _⟩ | ⟨j, x, h3, h4, h5⟩
    · exact Or.inl (Prod.ext h3 h1)
    · rw [Nat.zero_add] at h5
      refine Or.inr (Or.inr ⟨j, x, (getF_at l j x h3).2.2, Prod.ext h5 h1, (getF_at l j x h3).1, (getF_at l j x h3).2.1, h4, fun e => ?_⟩)
      subst e
      exact hm (List.mem_of_getElem? h3)
theorem addF_le {most : Int} {f : FieldL} {l : List FieldL} (hm : 0 ≤ most) : (sumF (addF most f l) : Int) ≤ most := by
  unfold addF
  have h := fitF_le (m := most - fsize f) (l := l)
  split
  · rw [sumF_cons]
    rcases h with h | h
    · rw [h]; show (((fsize f + 0 : Nat)) : Int) ≤ _; push_cast; omega
    · push_cast; omega
  · rcases h with h | h
    · rw [h]; show ((0 : Nat) : Int) ≤ _; omega
    · omega
theorem fitF_le' {m : Int} {l : List FieldL} (hm : 0 ≤ m) : (sumF (fitF m l) : Int) ≤ m := by
  rcases fitF_le (m := m) (l := l) with h | h
  · rw [h]; show ((0 : Nat) : Int) ≤ _; omega
  · exact h

end Go.Proofs.YtmlnboibclfmcaaDoor
