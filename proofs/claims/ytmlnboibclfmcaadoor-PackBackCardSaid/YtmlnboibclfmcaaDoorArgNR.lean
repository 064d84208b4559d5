/-
  Rows and asks with rows that came in, their strings within the reach.
-/
import Derived.Test.YtmlnboibclfmcaaDoorArgN
import Derived.Test.YtmlnboibclfmcaaDoorPackL
import Derived.Test.YtmlnboibclfmcaaDoorWts
namespace Go.Proofs.YtmlnboibclfmcaaDoor
open Go.ChangeShapes Go.WideShapes Go.ChangeAt Go.RowKit
set_option linter.unusedVariables false

set_option maxRecDepth 100000 in
theorem open_rowsDR {H : Type} {enc : TypeId × Value → H} {W : World} {v : Value} {fuel : Nat} {x : DataW H × List MemPlace} (hf : DataW.trod enc Tryd.prog W 0 (fun _ => true) true fuel 59 [v] = some x) (hw : ∀ n ∈ x.1.weights Tryd.prog 59, n ≤ reachBytes) :
    ∃ l : List RowL, RbW W v l ∧ RowsLim l ∧ ∀ r ∈ l, -9223372036854775808 ≤ r.how ∧ r.how ≤ 9223372036854775807 := by
  rcases Go.Deep.open_slice Tryd.underlying59 hf with ⟨hcs, hx⟩ | ⟨a, len, cap, m, n, D, Pl, hcs, hb, hl, hm, hmm, hx, hcell⟩
  · injection hcs with hcs _
    subst hcs
    exact ⟨[], Or.inl ⟨⟨none, rfl⟩, rfl⟩, by intro x hx; (simp at hx), by intro x hx; simp at hx⟩
  · injection hcs with hcs _
    subst hcs
    simp only [if_true] at hmm
    have c4 : Tryd.prog.cellsOf 57 = 3 := by kernel_rfl
    by_cases hc : cap = 0
    · subst hc
      obtain rfl : len = 0 := by omega
      exact ⟨[], Or.inl ⟨⟨_, rfl⟩, rfl⟩, by intro x hx; (simp at hx), by intro x hx; simp at hx⟩
    have h00 : a.spot = none ∧ a.block < W.heap.size := by
      obtain ⟨cs', h1, h2⟩ := hcell 0 (by omega)
      rw [c4] at h1
      obtain ⟨_, hlen, hcc⟩ := World.cells?_some h1
      have h3 := hcc 0 (by omega)
      rw [Nat.zero_mul, add_zero_addr, add_zero_addr, List.getElem?_eq_getElem (by rw [hlen]; omega)] at h3
      exact cell_at h3
    obtain ⟨hs, hlt⟩ := h00
    obtain ⟨ab, ao, spot⟩ := a
    subst hs
    have hlm : len ≤ m := by omega
    have c1 : Tryd.prog.cellsOf 3 = 1 := by kernel_rfl
    have c2 : Tryd.prog.cellsOf 28 = 2 := by kernel_rfl
    have cs1 : Tryd.prog.cellsOf 9 = 1 := by kernel_rfl
    rw [hx] at hw
    obtain ⟨-, hw1⟩ := wt_slice Tryd.underlying59 hw
    have hwi : ∀ i, i < len → ∀ n ∈ (D i).weights Tryd.prog 57, n ≤ reachBytes := fun i hi => hw1 _ (List.mem_map.2 ⟨i, List.mem_range.2 hi, rfl⟩)
    have hget : ∀ i, i < len → ∃ x : RowL, (W.cell? ⟨ab, ao + i * 3, none⟩ = some (strV x.f.1) ∧ W.cell? ⟨ab, ao + i * 3 + 1, none⟩ = some (strV x.f.2) ∧ W.cell? ⟨ab, ao + i * 3 + 2, none⟩ = some (.int .i64 x.how)) ∧ (-9223372036854775808 ≤ x.how ∧ x.how ≤ 9223372036854775807) ∧ x.f.1.length + x.f.2.length ≤ 281474976710656 := by
      intro i hi
      obtain ⟨cs', h1, h2⟩ := hcell i (by omega)
      rw [c4] at h1
      obtain ⟨_, hlen, hcc⟩ := World.cells?_some h1
      obtain ⟨xs, k, _, hxy, _, hxl, hfl⟩ := DataW.trod_struct Tryd.underlying57 h2
      have e0 := hfl 0 _ rfl
      have e1 := hfl 1 _ rfl
      match xs, hxl, cs', hlen with
      | [y0, y1], _, [v0, v1, v2], _ =>
        simp [c1, c2] at e0 e1
        obtain ⟨n2, a2, d2, z2⟩ := DataW.trod_int Tryd.underlying3 e1
        obtain ⟨xs2, k2, _, hxy2, _, hxl2, hfl2⟩ := DataW.trod_struct Tryd.underlying28 e0
        have g0 := hfl2 0 _ rfl
        have g1 := hfl2 1 _ rfl
        match xs2, hxl2 with
        | [u0, u1], _ =>
          simp [cs1] at g0 g1
          obtain ⟨s0, b0, q0, _⟩ := DataW.trod_string Tryd.underlying9 g0
          obtain ⟨s1, b1, q1, _⟩ := DataW.trod_string Tryd.underlying9 g1
          injection a2 with a2 _
          injection b0 with b0 _
          injection b1 with b1 _
          injection hxy with hxy _
          have bd2 := bounds_i64 z2
          have w0 := hcc 0 (by omega)
          have w1 := hcc 1 (by omega)
          have w2 := hcc 2 (by omega)
          have hwk := hwi i hi
          rw [hxy] at hwk
          have hwf := wt_each (j := 0) (wt_struct Tryd.underlying57 hwk) rfl rfl
          rw [hxy2] at hwf
          have hwg := wt_struct Tryd.underlying28 hwf
          have l0 := wt_string (d := u0.1) (by rw [q0]) (wt_each (j := 0) hwg rfl rfl)
          have l1 := wt_string (d := u1.1) (by rw [q1]) (wt_each (j := 1) hwg rfl rfl)
          have hbk : s0.data.toList.length + s1.data.toList.length ≤ 281474976710656 := by
            unfold reachBytes at l0 l1
            omega
          refine ⟨⟨(s0.data.toList, s1.data.toList), n2⟩, ⟨?_, ?_, ?_⟩, bd2, hbk⟩
          · rw [Addr.add_lit] at w0
            have : (⟨ab, ao + i * 3, none⟩ : Addr).add 0 = ⟨ab, ao + i * 3, none⟩ := by rw [Addr.add_lit]; rfl
            rw [this] at w0
            rw [w0, b0]; rfl
          · rw [Addr.add_lit, Addr.add_lit] at w1
            rw [w1, b1]; rfl
          · rw [Addr.add_lit, Addr.add_lit] at w2
            rw [w2, a2]; rfl
    obtain ⟨l, hl1, hl2⟩ := choose_list len hget
    refine ⟨l, Or.inr ⟨ab, ao, cap, by rw [hl1], by omega, hm, hlt, fun i hi => (hl2 i hi).1⟩, ?_, fun r hr => ?_⟩
    · intro r hr
      obtain ⟨i, hi, rfl⟩ := List.mem_iff_getElem.1 hr
      exact (hl2 i hi).2.2
    · obtain ⟨i, hi, rfl⟩ := List.mem_iff_getElem.1 hr
      exact (hl2 i hi).2.1
set_option maxRecDepth 100000 in
theorem open_rowsR {H : Type} {enc : TypeId × Value → H} {W : World} {base : Nat} {v : Value} {d : DataW H} {p : List MemPlace} (hval : Value.okWide Tryd.prog W .any base 59 v) (h : DataW.Trod enc Tryd.prog W 0 (fun _ => true) true 59 v d p) (hw : ∀ n ∈ d.weights Tryd.prog 59, n ≤ reachBytes) :
    ∃ l : List RowL, RbW W v l ∧ RowsLim l ∧ ∀ r ∈ l, -9223372036854775808 ≤ r.how ∧ r.how ≤ 9223372036854775807 := by
  obtain ⟨a1, len, cap, rfl⟩ := okWide_slice Tryd.underlying59 hval
  obtain ⟨fuel, hf⟩ := h
  exact open_rowsDR (x := (d, p)) (by simpa [Value.cells] using hf) hw
/-- What each ask may be. -/
structure AskRR (x : AskR) : Prop where
  k0 : -9223372036854775808 ≤ x.kind
  k1 : x.kind ≤ 9223372036854775807
  n0 : -9223372036854775808 ≤ x.n
  n1 : x.n ≤ 9223372036854775807
  lim : RowsLim x.rows
  how : ∀ r ∈ x.rows, -9223372036854775808 ≤ r.how ∧ r.how ≤ 9223372036854775807
set_option maxRecDepth 100000 in
theorem open_asks8R {H : Type} {enc : TypeId × Value → H} {W : World} {base : Nat} {v : Value} {d : DataW H} {p : List MemPlace} (hval : Value.okWide Tryd.prog W .any base 63 v) (h : DataW.Trod enc Tryd.prog W 0 (fun _ => true) true 63 v d p) (hw : ∀ n ∈ d.weights Tryd.prog 63, n ≤ reachBytes) :
    ∃ l : List AskR, RbK W v l ∧ ∀ x ∈ l, AskRR x := by
  obtain ⟨a1, len, cap, rfl⟩ := okWide_slice Tryd.underlying63 hval
  obtain ⟨fuel, hf⟩ := h
  rcases Go.Deep.open_slice Tryd.underlying63 hf with ⟨hcs, hx⟩ | ⟨a, len', cap', m, n, D, Pl, hcs, hb, hl, hm, hmm, hx, hcell⟩
  · simp [Value.cells] at hcs
    obtain ⟨rfl, rfl, rfl⟩ := hcs
    exact ⟨[], Or.inl ⟨⟨none, rfl⟩, rfl⟩, by intro x hx; simp at hx⟩
  · simp [Value.cells] at hcs
    obtain ⟨rfl, rfl, rfl⟩ := hcs
    obtain ⟨hs, hlt⟩ := has_ltA Tryd.underlying63 hval
    obtain ⟨ab, ao, spot⟩ := a
    subst hs
    have hlm : len ≤ m := by rw [hmm]; split <;> omega
    have c3 : Tryd.prog.cellsOf 68 = 3 := by kernel_rfl
    have c1 : Tryd.prog.cellsOf 3 = 1 := by kernel_rfl
    have cs1 : Tryd.prog.cellsOf 59 = 1 := by kernel_rfl
    injection hx with hx _
    rw [hx] at hw
    obtain ⟨-, hw1⟩ := wt_slice Tryd.underlying63 hw
    have hwi : ∀ i, i < len → ∀ n ∈ (D i).weights Tryd.prog 68, n ≤ reachBytes := fun i hi => hw1 _ (List.mem_map.2 ⟨i, List.mem_range.2 hi, rfl⟩)
    have hget : ∀ i, i < len → ∃ x : AskR, (W.cell? ⟨ab, ao + i * 3, none⟩ = some (.int .i64 x.kind) ∧ W.cell? ⟨ab, ao + i * 3 + 1, none⟩ = some (.int .i64 x.n) ∧ ∃ u, W.cell? ⟨ab, ao + i * 3 + 2, none⟩ = some u ∧ RbW W u x.rows) ∧ AskRR x := by
      intro i hi
      obtain ⟨cs', h1, h2⟩ := hcell i (by omega)
      rw [c3] at h1
      obtain ⟨_, hlen, hcc⟩ := World.cells?_some h1
      obtain ⟨xs, k, _, hxy, _, hxl, hfl⟩ := DataW.trod_struct Tryd.underlying68 h2
      have e0 := hfl 0 _ rfl
      have e1 := hfl 1 _ rfl
      have e2 := hfl 2 _ rfl
      match xs, hxl, cs', hlen with
      | [y0, y1, y2], _, [v0, v1, v2], _ =>
        simp [c1, cs1] at e0 e1 e2
        obtain ⟨n0, a0, d0, z0⟩ := DataW.trod_int Tryd.underlying3 e0
        obtain ⟨n1, a1, d1, z1⟩ := DataW.trod_int Tryd.underlying3 e1
        injection a0 with a0 _
        injection a1 with a1 _
        injection hxy with hxy _
        have hwk := hwi i hi
        rw [hxy] at hwk
        obtain ⟨R, r1, r2, r3⟩ := open_rowsDR e2 (wt_each (j := 2) (wt_struct Tryd.underlying68 hwk) rfl rfl)
        have bd0 := bounds_i64 z0
        have bd1 := bounds_i64 z1
        have w0 := hcc 0 (by omega)
        have w1 := hcc 1 (by omega)
        have w2 := hcc 2 (by omega)
        refine ⟨⟨n0, n1, R⟩, ⟨?_, ?_, v2, ?_, r1⟩, ⟨bd0.1, bd0.2, bd1.1, bd1.2, r2, r3⟩⟩
        · rw [Addr.add_lit] at w0
          have : (⟨ab, ao + i * 3, none⟩ : Addr).add 0 = ⟨ab, ao + i * 3, none⟩ := by rw [Addr.add_lit]; rfl
          rw [this] at w0
          rw [w0, a0]; rfl
        · rw [Addr.add_lit, Addr.add_lit] at w1
          rw [w1, a1]; rfl
        · rw [Addr.add_lit, Addr.add_lit] at w2
          rw [w2]; rfl
    obtain ⟨l, hl1, hl2⟩ := choose_list len hget
    refine ⟨l, Or.inr ⟨ab, ao, cap, by rw [hl1], by omega, hm, hlt, fun i hi => (hl2 i hi).1⟩, fun x hx => ?_⟩
    obtain ⟨i, hi, rfl⟩ := List.mem_iff_getElem.1 hx
    exact (hl2 i hi).2
end Go.Proofs.YtmlnboibclfmcaaDoor
