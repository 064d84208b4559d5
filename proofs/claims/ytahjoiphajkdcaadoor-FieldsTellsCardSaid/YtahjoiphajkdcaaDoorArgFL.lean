/-
  Fields that came in, their strings and their number within the reach.
-/
import Derived.Test.YtahjoiphajkdcaaDoorArgFR
namespace Go.Proofs.YtahjoiphajkdcaaDoor
open Go.ChangeShapes Go.WideShapes Go.ChangeAt Go.RowKit
set_option linter.unusedVariables false

set_option maxRecDepth 100000 in
theorem open_fieldsRL {H : Type} {enc : TypeId × Value → H} {W : World} {base : Nat} {v : Value} {d : DataW H} {p : List MemPlace} (hval : Value.okWide Tryd.prog W .any base 22 v) (h : DataW.Trod enc Tryd.prog W 0 (fun _ => true) true 22 v d p) (hw : ∀ n ∈ d.weights Tryd.prog 22, n ≤ reachBytes) :
    ∃ l : List FieldL, RbF W v l ∧ FieldsLim l ∧ l.length ≤ 4398046511104 := by
  obtain ⟨a1, len, cap, rfl⟩ := okWide_slice Tryd.underlying22 hval
  obtain ⟨fuel, hf⟩ := h
  rcases Go.Deep.open_slice_pairs Tryd.underlying22 Tryd.underlying24 cellsFF rfl rfl cellsFs cellsFs hf with ⟨hcs, hx⟩ | ⟨a, len', cap', m, n, V0, V1, D0, D1, P0, P1, hcs, _, hl, hm, hmm, hx, hcell⟩
  · simp [Value.cells] at hcs
    obtain ⟨rfl, rfl, rfl⟩ := hcs
    exact ⟨[], Or.inl ⟨rfl, rfl⟩, (fun f hf => by simp at hf), Nat.zero_le _⟩
  · simp [Value.cells] at hcs
    obtain ⟨rfl, rfl, rfl⟩ := hcs
    obtain ⟨hs, hlt⟩ := has_ltF Tryd.underlying22 hval
    obtain ⟨ab, ao, spot⟩ := a
    subst hs
    have hlm : len ≤ m := by rw [hmm]; split <;> omega
    injection hx with hx _
    rw [hx] at hw
    obtain ⟨hw0, hw1⟩ := wt_slice Tryd.underlying22 hw
    have hwi : ∀ i, i < len → ∀ n ∈ (DataW.agg [D0 i, D1 i]).weights Tryd.prog 24, n ≤ reachBytes := fun i hi => hw1 _ (List.mem_map.2 ⟨i, List.mem_range.2 hi, rfl⟩)
    have hget : ∀ i, i < len → ∃ f : FieldL, (W.cell? ⟨ab, ao + i * 2, none⟩ = some (strV f.1) ∧ W.cell? ⟨ab, ao + i * 2 + 1, none⟩ = some (strV f.2)) ∧ f.1.length + f.2.length ≤ 281474976710656 := by
      intro i hi
      obtain ⟨e0, e1, t0, t1⟩ := hcell i (by omega)
      obtain ⟨s0, hs0, hd0, _⟩ := DataW.trod_string Tryd.underlying9 t0
      obtain ⟨s1, hs1, hd1, _⟩ := DataW.trod_string Tryd.underlying9 t1
      rw [Addr.add_lit] at e0 e1
      injection hs0 with hs0 _
      injection hs1 with hs1 _
      injection hd0 with hd0 _
      injection hd1 with hd1 _
      refine ⟨(s0.data.toList, s1.data.toList), ⟨?_, ?_⟩, ?_⟩
      · rw [e0, hs0]; rfl
      · rw [show ao + i * 2 + 1 = ao + (i * 2 + 1) by omega, e1, hs1]; rfl
      · have hwg := wt_struct Tryd.underlying24 (hwi i hi)
        have l0 := wt_string hd0 (wt_each (j := 0) hwg rfl rfl)
        have l1 := wt_string hd1 (wt_each (j := 1) hwg rfl rfl)
        show s0.data.toList.length + s1.data.toList.length ≤ _
        unfold reachBytes at l0 l1
        omega
    have key : ∀ k, k ≤ len → ∃ l : List FieldL, l.length = k ∧ ∀ i (h : i < l.length), (W.cell? ⟨ab, ao + i * 2, none⟩ = some (strV l[i].1) ∧ W.cell? ⟨ab, ao + i * 2 + 1, none⟩ = some (strV l[i].2)) ∧ l[i].1.length + l[i].2.length ≤ 281474976710656 := by
      intro k
      induction k with
      | zero => exact fun _ => ⟨[], rfl, fun i hi => by simp at hi⟩
      | succ k ih =>
        intro hk
        obtain ⟨l, hl1, hl2⟩ := ih (by omega)
        obtain ⟨f, f1, f2⟩ := hget k (by omega)
        refine ⟨l ++ [f], by simp [hl1], fun i hi => ?_⟩
        by_cases hik : i < l.length
        · rw [List.getElem_append_left hik]; exact hl2 i hik
        · have : i = k := by simp at hi; omega
          subst this
          rw [List.getElem_append_right (by omega)]
          simpa [hl1] using ⟨f1, f2⟩
    obtain ⟨l, hl1, hl2⟩ := key len (Nat.le_refl _)
    refine ⟨l, Or.inr ⟨ab, ao, cap, by rw [hl1], by omega, hm, hlt, fun i hi => (hl2 i hi).1⟩, ?_, ?_⟩
    · intro f hf
      obtain ⟨i, hi, rfl⟩ := List.mem_iff_getElem.1 hf
      exact (hl2 i hi).2
    · have hby : Tryd.prog.bytesOf 24 = 32 := by kernel_rfl
      rw [List.length_map, List.length_range, hby] at hw0
      unfold reachBytes at hw0
      omega
end Go.Proofs.YtahjoiphajkdcaaDoor
