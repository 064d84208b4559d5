/-
  A slice of rows that came in, as a list; its bulk.
-/
import Derived.Test.YtmlnboibclfmcaaDoorPackBd
import Derived.Test.YtmlnboibclfmcaaDoorArgA
namespace Go.Proofs.YtmlnboibclfmcaaDoor
open Go.ChangeShapes Go.WideShapes Go.ChangeAt Go.RowKit
set_option linter.unusedVariables false

theorem sumR_bulk {H : Type} (D : Nat → DataW H) : ∀ (l : List RowL) (k : Nat), (∀ i (h : i < l.length), l[i].f.1.length + l[i].f.2.length + 1 ≤ Rows.uptoBulk (D (k + i))) → sumR l ≤ 32 * Rows.uptoBulkAll ((List.range' k l.length).map D)
  | [], k, _ => by simp [sumR]
  | r :: l, k, h => by
    rw [sumR_cons, List.length_cons, List.range'_succ, List.map_cons]
    simp only [Rows.uptoBulkAll]
    have h0 := h 0 (by simp)
    simp only [List.getElem_cons_zero, Nat.add_zero] at h0
    have h1 := sumR_bulk D l (k + 1) (fun i hi => by
      have := h (i + 1) (by simp; omega)
      simp only [List.getElem_cons_succ] at this
      rw [show k + 1 + i = k + (i + 1) by omega]
      exact this)
    omega

set_option maxRecDepth 100000 in
theorem open_rows {H : Type} {enc : TypeId × Value → H} {W : World} {base : Nat} {v : Value} {d : DataW H} {p : List MemPlace} (hval : Value.okWide Tryd.prog W .any base 59 v) (h : DataW.Trod enc Tryd.prog W 0 (fun _ => true) true 59 v d p) :
    ∃ l : List RowL, RbW W v l ∧ sumR l ≤ 32 * Rows.uptoBulk d ∧ ∀ r ∈ l, -9223372036854775808 ≤ r.how ∧ r.how ≤ 9223372036854775807 := by
  obtain ⟨a1, len, cap, rfl⟩ := okWide_slice Tryd.underlying59 hval
  obtain ⟨fuel, hf⟩ := h
  rcases Go.Deep.open_slice Tryd.underlying59 hf with ⟨hcs, hx⟩ | ⟨a, len', cap', m, n, D, Pl, hcs, hb, hl, hm, hmm, hx, hcell⟩
  · simp [Value.cells] at hcs
    obtain ⟨rfl, rfl, rfl⟩ := hcs
    exact ⟨[], Or.inl ⟨⟨none, rfl⟩, rfl⟩, Nat.zero_le _, by intro x hx; simp at hx⟩
  · simp [Value.cells] at hcs
    obtain ⟨rfl, rfl, rfl⟩ := hcs
    obtain ⟨hs, hlt⟩ := has_ltA Tryd.underlying59 hval
    obtain ⟨ab, ao, spot⟩ := a
    subst hs
    have hlm : len ≤ m := by rw [hmm]; split <;> omega
    have c4 : Tryd.prog.cellsOf 57 = 3 := by kernel_rfl
    have c1 : Tryd.prog.cellsOf 3 = 1 := by kernel_rfl
    have c2 : Tryd.prog.cellsOf 28 = 2 := by kernel_rfl
    have cs1 : Tryd.prog.cellsOf 9 = 1 := by kernel_rfl
    injection hx with hx _
    have hget : ∀ i, i < len → ∃ x : RowL, (W.cell? ⟨ab, ao + i * 3, none⟩ = some (strV x.f.1) ∧ W.cell? ⟨ab, ao + i * 3 + 1, none⟩ = some (strV x.f.2) ∧ W.cell? ⟨ab, ao + i * 3 + 2, none⟩ = some (.int .i64 x.how)) ∧ (-9223372036854775808 ≤ x.how ∧ x.how ≤ 9223372036854775807) ∧ x.f.1.length + x.f.2.length + 1 ≤ Rows.uptoBulk (D i) := by
      intro i hi
      obtain ⟨cs', h1, h2⟩ := hcell i (by omega)
      rw [c4] at h1
      obtain ⟨_, hlen, hcc⟩ := World.cells?_some h1
      obtain ⟨xs, k, _, hxy, _, hxl, hfl⟩ := DataW.trod_struct Tryd.underlying57 h2
      have e0 := hfl 0 _ rfl
      have e1 := hfl 1 _ rfl
      match xs, hxl, cs', hlen with
      | [y0, y1], _, [v0, v1, v2], _ =>
        simp [c1, c2] at e0 e1
        obtain ⟨n2, a2, d2, z2⟩ := DataW.trod_int Tryd.underlying3 e1
        obtain ⟨xs2, k2, _, hxy2, _, hxl2, hfl2⟩ := DataW.trod_struct Tryd.underlying28 e0
        have g0 := hfl2 0 _ rfl
        have g1 := hfl2 1 _ rfl
        match xs2, hxl2 with
        | [u0, u1], _ =>
          simp [cs1] at g0 g1
          obtain ⟨s0, b0, q0, _⟩ := DataW.trod_string Tryd.underlying9 g0
          obtain ⟨s1, b1, q1, _⟩ := DataW.trod_string Tryd.underlying9 g1
          injection a2 with a2 _
          injection b0 with b0 _
          injection b1 with b1 _
          injection hxy with hxy _
          have bd2 := bounds_i64 z2
          have w0 := hcc 0 (by omega)
          have w1 := hcc 1 (by omega)
          have w2 := hcc 2 (by omega)
          have hbk : s0.data.toList.length + s1.data.toList.length + 1 ≤ Rows.uptoBulk (D i) := by
            rw [hxy]
            simp only [List.map_cons, List.map_nil, Rows.uptoBulk, Rows.uptoBulkAll, hxy2, q0, q1, d2]
            omega
          refine ⟨⟨(s0.data.toList, s1.data.toList), n2⟩, ⟨?_, ?_, ?_⟩, bd2, hbk⟩
          · rw [Addr.add_lit] at w0
            have : (⟨ab, ao + i * 3, none⟩ : Addr).add 0 = ⟨ab, ao + i * 3, none⟩ := by rw [Addr.add_lit]; rfl
            rw [this] at w0
            rw [w0, b0]; rfl
          · rw [Addr.add_lit, Addr.add_lit] at w1
            rw [w1, b1]; rfl
          · rw [Addr.add_lit, Addr.add_lit] at w2
            rw [w2, a2]; rfl
    have key : ∀ k, k ≤ len → ∃ l : List RowL, l.length = k ∧ (∀ x ∈ l, -9223372036854775808 ≤ x.how ∧ x.how ≤ 9223372036854775807) ∧ ∀ i (h : i < l.length), (W.cell? ⟨ab, ao + i * 3, none⟩ = some (strV l[i].f.1) ∧ W.cell? ⟨ab, ao + i * 3 + 1, none⟩ = some (strV l[i].f.2) ∧ W.cell? ⟨ab, ao + i * 3 + 2, none⟩ = some (.int .i64 l[i].how)) ∧ l[i].f.1.length + l[i].f.2.length + 1 ≤ Rows.uptoBulk (D i) := by
      intro k
      induction k with
      | zero => exact fun _ => ⟨[], rfl, by intro x hx; simp at hx, fun i hi => by simp at hi⟩
      | succ k ih =>
        intro hk
        obtain ⟨l, hl1, hl3, hl2⟩ := ih (by omega)
        obtain ⟨f, f1, f2, f3⟩ := hget k (by omega)
        refine ⟨l ++ [f], by simp [hl1], fun x hx => ?_, fun i hi => ?_⟩
        · rcases List.mem_append.1 hx with hx | hx
          · exact hl3 x hx
          · obtain rfl : x = f := by simpa using hx
            exact f2
        · by_cases hik : i < l.length
          · rw [List.getElem_append_left hik]; exact hl2 i hik
          · have : i = k := by simp at hi; omega
            subst this
            rw [List.getElem_append_right (by omega)]
            simp [hl1]
            exact ⟨f1, f3⟩
    obtain ⟨l, hl1, hl3, hl2⟩ := key len (Nat.le_refl _)
    refine ⟨l, Or.inr ⟨ab, ao, cap, by rw [hl1], by omega, hm, hlt, fun i hi => (hl2 i hi).1⟩, ?_, hl3⟩
    rw [hx]
    simp only [Rows.uptoBulk]
    have h1 := sumR_bulk D l 0 (fun i hi => by rw [Nat.zero_add]; exact (hl2 i hi).2)
    rw [hl1, ← List.range_eq_range'] at h1
    omega

end Go.Proofs.YtmlnboibclfmcaaDoor
