/-
  Fields, a request, a response that came in, their strings within the reach.
-/
import Derived.Test.YtdcdckjdloddiaaArgR
import Derived.Test.YtdcdckjdloddiaaLim
import Derived.Test.YtdcdckjdloddiaaWts
namespace Go.Proofs.Ytdcdckjdloddiaa
open Go.ChangeShapes Go.WideShapes Go.ChangeAt Go.RowKit
set_option linter.unusedVariables false

set_option maxRecDepth 100000 in
theorem open_fieldsR {H : Type} {enc : TypeId × Value → H} {W : World} {base : Nat} {v : Value} {d : DataW H} {p : List MemPlace} (hval : Value.okWide Try.prog W .any base 22 v) (h : DataW.Trod enc Try.prog W 0 (fun _ => true) true 22 v d p) (hw : ∀ n ∈ d.weights Try.prog 22, n ≤ reachBytes) :
    ∃ l : List FieldL, RbF W v l ∧ FieldsLim l := by
  obtain ⟨a1, len, cap, rfl⟩ := okWide_slice Try.underlying22 hval
  obtain ⟨fuel, hf⟩ := h
  rcases Go.Deep.open_slice_pairs Try.underlying22 Try.underlying38 cellsFF rfl rfl cellsFs cellsFs hf with ⟨hcs, hx⟩ | ⟨a, len', cap', m, n, V0, V1, D0, D1, P0, P1, hcs, _, hl, hm, hmm, hx, hcell⟩
  · simp [Value.cells] at hcs
    obtain ⟨rfl, rfl, rfl⟩ := hcs
    exact ⟨[], Or.inl ⟨rfl, rfl⟩, fun f hf => by simp at hf⟩
  · simp [Value.cells] at hcs
    obtain ⟨rfl, rfl, rfl⟩ := hcs
    obtain ⟨hs, hlt⟩ := has_ltF Try.underlying22 hval
    obtain ⟨ab, ao, spot⟩ := a
    subst hs
    have hlm : len ≤ m := by rw [hmm]; split <;> omega
    injection hx with hx _
    rw [hx] at hw
    obtain ⟨-, hw1⟩ := wt_slice Try.underlying22 hw
    have hwi : ∀ i, i < len → ∀ n ∈ (DataW.agg [D0 i, D1 i]).weights Try.prog 38, n ≤ reachBytes := fun i hi => hw1 _ (List.mem_map.2 ⟨i, List.mem_range.2 hi, rfl⟩)
    have hget : ∀ i, i < len → ∃ f : FieldL, (W.cell? ⟨ab, ao + i * 2, none⟩ = some (strV f.1) ∧ W.cell? ⟨ab, ao + i * 2 + 1, none⟩ = some (strV f.2)) ∧ f.1.length + f.2.length ≤ 281474976710656 := by
      intro i hi
      obtain ⟨e0, e1, t0, t1⟩ := hcell i (by omega)
      obtain ⟨s0, hs0, hd0, _⟩ := DataW.trod_string Try.underlying9 t0
      obtain ⟨s1, hs1, hd1, _⟩ := DataW.trod_string Try.underlying9 t1
      rw [Addr.add_lit] at e0 e1
      injection hs0 with hs0 _
      injection hs1 with hs1 _
      injection hd0 with hd0 _
      injection hd1 with hd1 _
      refine ⟨(s0.data.toList, s1.data.toList), ⟨?_, ?_⟩, ?_⟩
      · rw [e0, hs0]; rfl
      · rw [show ao + i * 2 + 1 = ao + (i * 2 + 1) by omega, e1, hs1]; rfl
      · have hwg := wt_struct Try.underlying38 (hwi i hi)
        have l0 := wt_string hd0 (wt_each (j := 0) hwg rfl rfl)
        have l1 := wt_string hd1 (wt_each (j := 1) hwg rfl rfl)
        show s0.data.toList.length + s1.data.toList.length ≤ _
        unfold reachBytes at l0 l1
        omega
    have key : ∀ k, k ≤ len → ∃ l : List FieldL, l.length = k ∧ ∀ i (h : i < l.length), (W.cell? ⟨ab, ao + i * 2, none⟩ = some (strV l[i].1) ∧ W.cell? ⟨ab, ao + i * 2 + 1, none⟩ = some (strV l[i].2)) ∧ l[i].1.length + l[i].2.length ≤ 281474976710656 := by
      intro k
      induction k with
      | zero => exact fun _ => ⟨[], rfl, fun i hi => by simp at hi⟩
      | succ k ih =>
        intro hk
        obtain ⟨l, hl1, hl2⟩ := ih (by omega)
        obtain ⟨f, f1, f2⟩ := hget k (by omega)
        refine ⟨l ++ [f], by simp [hl1], fun i hi => ?_⟩
        by_cases hik : i < l.length
        · rw [List.getElem_append_left hik]; exact hl2 i hik
        · have : i = k := by simp at hi; omega
          subst this
          rw [List.getElem_append_right (by omega)]
          simpa [hl1] using ⟨f1, f2⟩
    obtain ⟨l, hl1, hl2⟩ := key len (Nat.le_refl _)
    refine ⟨l, Or.inr ⟨ab, ao, cap, by rw [hl1], by omega, hm, hlt, fun i hi => (hl2 i hi).1⟩, ?_⟩
    intro f hf
    obtain ⟨i, hi, rfl⟩ := List.mem_iff_getElem.1 hf
    exact (hl2 i hi).2
set_option maxRecDepth 100000 in
theorem open_reqR {H : Type} {enc : TypeId × Value → H} {W : World} {base : Nat} {v : Value} {d : DataW H} {p : List MemPlace} (hval : Value.okWide Try.prog W .any base 24 v) (h : DataW.Trod enc Try.prog W 0 (fun _ => true) true 24 v d p) (hw : ∀ n ∈ d.weights Try.prog 24, n ≤ reachBytes) :
    ∃ (m x1 x2 x3 : ByteArray) (vq : Value) (n : Int) (l : List FieldL), v = .agg #[.string m, .string x1, .string x2, .string x3, vq, .int .i64 n] ∧ (m.size ≤ maxLen ∧ x1.size ≤ maxLen ∧ x2.size ≤ maxLen ∧ x3.size ≤ maxLen) ∧ RbF W vq l ∧ FieldsLim l ∧ -9223372036854775808 ≤ n ∧ n ≤ 9223372036854775807 := by
  obtain ⟨fs, hs⟩ : ∃ fs, Try.prog.underlying 24 = some (.struct fs) := ⟨_, Try.underlying24⟩
  obtain ⟨cs, rfl, hsz⟩ := okWide_struct hs hval
  have hC : Try.prog.cellsOf 24 = 6 := by kernel_rfl
  have hrow : Row.okWide Try.prog W .any base 24 cs := by
    simp only [Value.okWide, hs] at hval
    obtain ⟨cs', h1, _, h3⟩ := hval
    injection h1 with h1
    rw [h1]; exact h3
  obtain ⟨fuel, hf⟩ := h
  obtain ⟨c0, c1, c2, c3, c4, c5, rfl⟩ : ∃ c0 c1 c2 c3 c4 c5, cs = #[c0, c1, c2, c3, c4, c5] := by
    rw [hC] at hsz
    obtain ⟨l⟩ := cs
    match l, hsz with
    | [c0, c1, c2, c3, c4, c5], _ => exact ⟨c0, c1, c2, c3, c4, c5, rfl⟩
  have h4 := slice_cell Try.underlying22 (row_cell [9, 9, 9, 9, 22, 3] (by kernel_rfl) hrow (i := 4) rfl rfl)
  obtain ⟨xs, n, _, hx, hl, hlen, hfl⟩ := DataW.trod_struct Try.underlying24 hf
  clear hs hval hrow hsz
  have e0 := hfl 0 _ rfl
  have e1 := hfl 1 _ rfl
  have e2 := hfl 2 _ rfl
  have e3 := hfl 3 _ rfl
  have e4 := hfl 4 _ rfl
  have e5 := hfl 5 _ rfl
  clear hfl hl
  injection hx with hx _
  match xs, hlen with
  | [y0, y1, y2, y3, y4, y5], _ =>
    simp only [Value.cells, List.getElem?_cons_succ, List.getElem?_cons_zero] at e0 e1 e2 e3 e4 e5
    obtain ⟨s0, a0, -, z0⟩ := DataW.trod_string Try.underlying9 e0
    obtain ⟨s1, a1, -, z1⟩ := DataW.trod_string Try.underlying9 e1
    obtain ⟨s2, a2, -, z2⟩ := DataW.trod_string Try.underlying9 e2
    obtain ⟨s3, a3, -, z3⟩ := DataW.trod_string Try.underlying9 e3
    obtain ⟨n5, a5, -, z5⟩ := DataW.trod_int Try.underlying3 e5
    rw [hx] at hw
    obtain ⟨l, hr, hb⟩ := open_fieldsR h4 ⟨n, by
      obtain ⟨a, b, c, rfl⟩ := okWide_slice Try.underlying22 h4
      exact e4⟩ (wt_each (j := 4) (wt_struct Try.underlying24 hw) rfl rfl)
    injection a0 with a0 _
    injection a1 with a1 _
    injection a2 with a2 _
    injection a3 with a3 _
    injection a5 with a5 _
    subst a0 a1 a2 a3 a5
    have hb5 := bounds_i64 z5
    refine ⟨s0, s1, s2, s3, c4, n5, l, rfl, ⟨z0, z1, z2, z3⟩, hr, hb, hb5.1, hb5.2⟩
set_option maxRecDepth 100000 in
theorem open_resR {H : Type} {enc : TypeId × Value → H} {W : World} {base : Nat} {v : Value} {d : DataW H} {p : List MemPlace} (hval : Value.okWide Try.prog W .any base 26 v) (h : DataW.Trod enc Try.prog W 0 (fun _ => true) true 26 v d p) (hw : ∀ n ∈ d.weights Try.prog 26, n ≤ reachBytes) :
    ∃ (st : Int) (vs : Value) (n : Int) (l : List FieldL), v = .agg #[.int .i64 st, vs, .int .i64 n] ∧ RbF W vs l ∧ FieldsLim l ∧ (-9223372036854775808 ≤ st ∧ st ≤ 9223372036854775807) ∧ -9223372036854775808 ≤ n ∧ n ≤ 9223372036854775807 := by
  obtain ⟨fs, hs⟩ : ∃ fs, Try.prog.underlying 26 = some (.struct fs) := ⟨_, Try.underlying26⟩
  obtain ⟨cs, rfl, hsz⟩ := okWide_struct hs hval
  have hC : Try.prog.cellsOf 26 = 3 := by kernel_rfl
  have hrow : Row.okWide Try.prog W .any base 26 cs := by
    simp only [Value.okWide, hs] at hval
    obtain ⟨cs', h1, _, h3⟩ := hval
    injection h1 with h1
    rw [h1]; exact h3
  obtain ⟨fuel, hf⟩ := h
  obtain ⟨c0, c1, c2, rfl⟩ : ∃ c0 c1 c2, cs = #[c0, c1, c2] := by
    rw [hC] at hsz
    obtain ⟨l⟩ := cs
    match l, hsz with
    | [c0, c1, c2], _ => exact ⟨c0, c1, c2, rfl⟩
  have h4 := slice_cell Try.underlying22 (row_cell [3, 22, 3] (by kernel_rfl) hrow (i := 1) rfl rfl)
  obtain ⟨xs, n, _, hx, hl, hlen, hfl⟩ := DataW.trod_struct Try.underlying26 hf
  clear hs hval hrow hsz
  have e0 := hfl 0 _ rfl
  have e1 := hfl 1 _ rfl
  have e2 := hfl 2 _ rfl
  clear hfl hl
  injection hx with hx _
  match xs, hlen with
  | [y0, y1, y2], _ =>
    simp only [Value.cells, List.getElem?_cons_succ, List.getElem?_cons_zero] at e0 e1 e2
    obtain ⟨n0, a0, -, z0⟩ := DataW.trod_int Try.underlying3 e0
    obtain ⟨n2, a2, -, z2⟩ := DataW.trod_int Try.underlying3 e2
    rw [hx] at hw
    obtain ⟨l, hr, hb⟩ := open_fieldsR h4 ⟨n, by
      obtain ⟨a, b, c, rfl⟩ := okWide_slice Try.underlying22 h4
      exact e1⟩ (wt_each (j := 1) (wt_struct Try.underlying26 hw) rfl rfl)
    injection a0 with a0 _
    injection a2 with a2 _
    subst a0 a2
    refine ⟨n0, c1, n2, l, rfl, hr, hb, bounds_i64 z0, bounds_i64 z2⟩
end Go.Proofs.Ytdcdckjdloddiaa
