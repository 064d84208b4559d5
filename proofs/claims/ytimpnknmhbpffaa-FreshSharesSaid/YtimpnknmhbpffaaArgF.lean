/-
  A slice of fields that came in, as a list; its bulk.
-/
import Derived.Test.YtimpnknmhbpffaaSameF
import Derived.Deep.SlicePairs
import Derived.OpenShut
import Derived.ChangeSlices
import Derived.WideShapes
import Derived.ProofKit
import Derived.ShutString
import Derived.ChangeOld
namespace Go.Proofs.Ytimpnknmhbpffaa
open Go.ChangeShapes Go.WideShapes Go.ChangeAt Go.RowKit

theorem cellsFs : Try.prog.cellsOf 9 = 1 := by kernel_rfl
theorem cellsFF : Try.prog.cellsOf 32 = 2 := by kernel_rfl
theorem has_ltF {P : Program} {w : World} {r : Reach} {base : Nat} {t e : TypeId} {a : Addr} {len cap : Nat} (ht : P.underlying t = some (.slice e)) (h : Value.okWide P w r base t (.slice (some a) len cap)) : a.spot = none ∧ a.block < w.heap.size := by
  simp only [Value.okWide, ht, Cell.okWide, Cell.ok] at h
  obtain ⟨_, _, _, hs, row, cells, hsh, _⟩ := h
  refine ⟨hs, ?_⟩
  rcases Nat.lt_or_ge a.block w.heap.size with h | h
  · exact h
  · unfold World.shape? at hsh
    rw [Array.getElem?_eq_none h] at hsh
    simp at hsh
def bulkF (l : List FieldL) : Nat := (l.map fun f => f.1.length + f.2.length + 3).sum
theorem bulkF_len (l : List FieldL) : l.length ≤ bulkF l := by
  induction l with
  | nil => simp
  | cons f l ih =>
    have e : bulkF (f :: l) = f.1.length + f.2.length + 3 + bulkF l := by simp [bulkF]
    rw [e, List.length_cons]
    omega
theorem bulk_range {H : Type} (D : Nat → DataW H) : ∀ (m : Nat) (l : List FieldL), l.length = m → (∀ i (h : i < l.length), Rows.uptoBulk (D i) = l[i].1.length + l[i].2.length + 3) → Rows.uptoBulkAll ((List.range m).map D) = bulkF l
  | 0, l, hl, _ => by
    have : l = [] := List.eq_nil_of_length_eq_zero hl
    subst this
    rfl
  | m + 1, l, hl, h => by
    have hs : ∀ a b : List (DataW H), Rows.uptoBulkAll (a ++ b) = Rows.uptoBulkAll a + Rows.uptoBulkAll b := by
      intro a b
      induction a with
      | nil => simp [Rows.uptoBulkAll]
      | cons x a ih => simp only [List.cons_append, Rows.uptoBulkAll, ih]; omega
    have hlt : m < l.length := by omega
    have hd : l = l.take m ++ [l[m]] := by
      rw [← List.take_succ_eq_append_getElem hlt, List.take_of_length_le (by omega)]
    rw [List.range_succ, List.map_append, hs]
    have ih := bulk_range D m (l.take m) (by rw [List.length_take]; omega) (fun i hi => by
      rw [List.length_take] at hi
      rw [List.getElem_take]
      exact h i (by omega))
    rw [ih]
    have e := congrArg bulkF hd
    have e2 : bulkF (l.take m ++ [l[m]]) = bulkF (l.take m) + (l[m].1.length + l[m].2.length + 3) := by
      generalize l.take m = a
      generalize l[m] = f
      simp [bulkF]
    rw [e2] at e
    rw [e, List.map_cons, List.map_nil]
    simp only [Rows.uptoBulkAll]
    have := h m hlt
    omega
set_option maxRecDepth 100000 in
theorem open_fieldsB {H : Type} {enc : TypeId × Value → H} {W : World} {base : Nat} {v : Value} {d : DataW H} {p : List MemPlace} (hval : Value.okWide Try.prog W .any base 23 v) (h : DataW.Trod enc Try.prog W 0 (fun _ => true) true 23 v d p) :
    ∃ l : List FieldL, RbF W v l ∧ bulkF l ≤ Rows.uptoBulk d := by
  obtain ⟨a1, len, cap, rfl⟩ := okWide_slice Try.underlying23 hval
  obtain ⟨fuel, hf⟩ := h
  rcases Go.Deep.open_slice_pairs Try.underlying23 Try.underlying32 cellsFF rfl rfl cellsFs cellsFs hf with ⟨hcs, hx⟩ | ⟨a, len', cap', m, n, V0, V1, D0, D1, P0, P1, hcs, _, hl, hm, hmm, hx, hcell⟩
  · simp [Value.cells] at hcs
    obtain ⟨rfl, rfl, rfl⟩ := hcs
    exact ⟨[], Or.inl ⟨rfl, rfl⟩, Nat.zero_le _⟩
  · simp [Value.cells] at hcs
    obtain ⟨rfl, rfl, rfl⟩ := hcs
    obtain ⟨hs, hlt⟩ := has_ltF Try.underlying23 hval
    obtain ⟨ab, ao, spot⟩ := a
    subst hs
    have hlm : len ≤ m := by rw [hmm]; split <;> omega
    have hget : ∀ i, i < len → ∃ f : FieldL, (W.cell? ⟨ab, ao + i * 2, none⟩ = some (strV f.1) ∧ W.cell? ⟨ab, ao + i * 2 + 1, none⟩ = some (strV f.2)) ∧ Rows.uptoBulk (DataW.agg [D0 i, D1 i]) = f.1.length + f.2.length + 3 := by
      intro i hi
      obtain ⟨e0, e1, t0, t1⟩ := hcell i (by omega)
      obtain ⟨s0, hs0, hd0, _⟩ := DataW.trod_string Try.underlying9 t0
      obtain ⟨s1, hs1, hd1, _⟩ := DataW.trod_string Try.underlying9 t1
      rw [Addr.add_lit] at e0 e1
      injection hs0 with hs0 _
      injection hs1 with hs1 _
      injection hd0 with hd0 _
      injection hd1 with hd1 _
      refine ⟨(s0.data.toList, s1.data.toList), ⟨?_, ?_⟩, ?_⟩
      · rw [e0, hs0]; rfl
      · rw [show ao + i * 2 + 1 = ao + (i * 2 + 1) by omega, e1, hs1]; rfl
      · rw [hd0, hd1]
        simp only [Rows.uptoBulk, Rows.uptoBulkAll]
        omega
    have key : ∀ k, k ≤ len → ∃ l : List FieldL, l.length = k ∧ ∀ i (h : i < l.length), (W.cell? ⟨ab, ao + i * 2, none⟩ = some (strV l[i].1) ∧ W.cell? ⟨ab, ao + i * 2 + 1, none⟩ = some (strV l[i].2)) ∧ Rows.uptoBulk (DataW.agg [D0 i, D1 i]) = l[i].1.length + l[i].2.length + 3 := by
      intro k
      induction k with
      | zero => exact fun _ => ⟨[], rfl, fun i hi => by simp at hi⟩
      | succ k ih =>
        intro hk
        obtain ⟨l, hl1, hl2⟩ := ih (by omega)
        obtain ⟨f, f1, f2⟩ := hget k (by omega)
        refine ⟨l ++ [f], by simp [hl1], fun i hi => ?_⟩
        by_cases hik : i < l.length
        · rw [List.getElem_append_left hik]; exact hl2 i hik
        · have : i = k := by simp at hi; omega
          subst this
          rw [List.getElem_append_right (by omega)]
          simpa [hl1] using ⟨f1, f2⟩
    obtain ⟨l, hl1, hl2⟩ := key len (Nat.le_refl _)
    refine ⟨l, Or.inr ⟨ab, ao, cap, by rw [hl1], by omega, hm, hlt, fun i hi => (hl2 i hi).1⟩, ?_⟩
    injection hx with hx _
    rw [hx]
    simp only [Rows.uptoBulk]
    rw [bulk_range (fun i => DataW.agg [D0 i, D1 i]) len l hl1 (fun i hi => (hl2 i hi).2)]
    omega

end Go.Proofs.Ytimpnknmhbpffaa
