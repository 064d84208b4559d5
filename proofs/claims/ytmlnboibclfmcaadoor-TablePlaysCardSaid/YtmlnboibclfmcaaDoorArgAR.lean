/-
  Asks and fields that came in, their strings within the reach.
-/
import Derived.Test.YtmlnboibclfmcaaDoorArgA
import Derived.Test.YtmlnboibclfmcaaDoorWts
namespace Go.Proofs.YtmlnboibclfmcaaDoor
open Go.ChangeShapes Go.WideShapes Go.ChangeAt Go.RowKit

set_option maxRecDepth 100000 in
theorem open_asksR {H : Type} {enc : TypeId × Value → H} {W : World} {base : Nat} {v : Value} {d : DataW H} {p : List MemPlace} (hval : Value.okWide Tryd.prog W .any base 36 v) (h : DataW.Trod enc Tryd.prog W 0 (fun _ => true) true 36 v d p) (hw : ∀ n ∈ d.weights Tryd.prog 36, n ≤ reachBytes) :
    ∃ l : List AskL, RbA W v l ∧ (∀ x ∈ l, AskOk 281474976710656 x) ∧ l.length ≤ 281474976710656 := by
  obtain ⟨a1, len, cap, rfl⟩ := okWide_slice Tryd.underlying36 hval
  obtain ⟨fuel, hf⟩ := h
  rcases Go.Deep.open_slice Tryd.underlying36 hf with ⟨hcs, hx⟩ | ⟨a, len', cap', m, n, D, Pl, hcs, hb, hl, hm, hmm, hx, hcell⟩
  · simp [Value.cells] at hcs
    obtain ⟨rfl, rfl, rfl⟩ := hcs
    exact ⟨[], Or.inl ⟨rfl, rfl⟩, by intro x hx; simp at hx, Nat.zero_le _⟩
  · simp [Value.cells] at hcs
    obtain ⟨rfl, rfl, rfl⟩ := hcs
    obtain ⟨hs, hlt⟩ := has_ltA Tryd.underlying36 hval
    obtain ⟨ab, ao, spot⟩ := a
    subst hs
    have hlm : len ≤ m := by rw [hmm]; split <;> omega
    have c4 : Tryd.prog.cellsOf 39 = 4 := by kernel_rfl
    have c1 : Tryd.prog.cellsOf 3 = 1 := by kernel_rfl
    have c2 : Tryd.prog.cellsOf 28 = 2 := by kernel_rfl
    have cs1 : Tryd.prog.cellsOf 9 = 1 := by kernel_rfl
    injection hx with hx _
    have hD : ∀ i, i < len → D i ∈ (List.range len).map D := fun i hi => List.mem_map.2 ⟨i, List.mem_range.2 hi, rfl⟩
    rw [hx] at hw
    obtain ⟨hw0, hw1⟩ := wt_slice Tryd.underlying36 hw
    have hby : Tryd.prog.bytesOf 39 = 48 := by kernel_rfl
    have hwi : ∀ i, i < len → ∀ n ∈ (D i).weights Tryd.prog 39, n ≤ reachBytes := fun i hi => hw1 _ (hD i hi)
    have hget : ∀ i, i < len → ∃ x : AskL, (W.cell? ⟨ab, ao + i * 4, none⟩ = some (.int .i64 x.kind) ∧ W.cell? ⟨ab, ao + i * 4 + 1, none⟩ = some (.int .i64 x.n) ∧ W.cell? ⟨ab, ao + i * 4 + 2, none⟩ = some (strV x.f.1) ∧ W.cell? ⟨ab, ao + i * 4 + 3, none⟩ = some (strV x.f.2)) ∧ AskOk 281474976710656 x := by
      intro i hi
      obtain ⟨cs', h1, h2⟩ := hcell i (by omega)
      rw [c4] at h1
      obtain ⟨_, hlen, hcc⟩ := World.cells?_some h1
      obtain ⟨xs, k, _, hxy, _, hxl, hfl⟩ := DataW.trod_struct Tryd.underlying39 h2
      have e0 := hfl 0 _ rfl
      have e1 := hfl 1 _ rfl
      have e2 := hfl 2 _ rfl
      match xs, hxl, cs', hlen with
      | [y0, y1, y2], _, [v0, v1, v2, v3], _ =>
        simp [c1, c2] at e0 e1 e2
        obtain ⟨n0, a0, d0, z0⟩ := DataW.trod_int Tryd.underlying3 e0
        obtain ⟨n1, a1, d1, z1⟩ := DataW.trod_int Tryd.underlying3 e1
        obtain ⟨xs2, k2, _, hxy2, _, hxl2, hfl2⟩ := DataW.trod_struct Tryd.underlying28 e2
        have g0 := hfl2 0 _ rfl
        have g1 := hfl2 1 _ rfl
        match xs2, hxl2 with
        | [u0, u1], _ =>
          simp [cs1] at g0 g1
          obtain ⟨s0, b0, q0, _⟩ := DataW.trod_string Tryd.underlying9 g0
          obtain ⟨s1, b1, q1, _⟩ := DataW.trod_string Tryd.underlying9 g1
          injection a0 with a0 _
          injection a1 with a1 _
          injection b0 with b0 _
          injection b1 with b1 _
          injection hxy with hxy _
          have bd0 := bounds_i64 z0
          have bd1 := bounds_i64 z1
          have w0 := hcc 0 (by omega)
          have w1 := hcc 1 (by omega)
          have w2 := hcc 2 (by omega)
          have w3 := hcc 3 (by omega)
          have hwk := hwi i hi
          rw [hxy] at hwk
          have hwf := wt_each (j := 2) (wt_struct Tryd.underlying39 hwk) rfl rfl
          rw [hxy2] at hwf
          have hwg := wt_struct Tryd.underlying28 hwf
          have l0 := wt_string (d := u0.1) (by rw [q0]) (wt_each (j := 0) hwg rfl rfl)
          have l1 := wt_string (d := u1.1) (by rw [q1]) (wt_each (j := 1) hwg rfl rfl)
          refine ⟨⟨n0, n1, (s0.data.toList, s1.data.toList)⟩, ⟨?_, ?_, ?_, ?_⟩, ⟨bd0.1, bd0.2, bd1.1, bd1.2, ?_⟩⟩
          · rw [Addr.add_lit] at w0
            have : (⟨ab, ao + i * 4, none⟩ : Addr).add 0 = ⟨ab, ao + i * 4, none⟩ := by rw [Addr.add_lit]; rfl
            rw [this] at w0
            rw [w0, a0]; rfl
          · rw [Addr.add_lit, Addr.add_lit] at w1
            rw [w1, a1]; rfl
          · rw [Addr.add_lit, Addr.add_lit] at w2
            rw [w2, b0]; rfl
          · rw [Addr.add_lit, Addr.add_lit] at w3
            rw [w3, b1]; rfl
          · show s0.data.toList.length + s1.data.toList.length ≤ _
            unfold reachBytes at l0 l1
            omega
    have key : ∀ k, k ≤ len → ∃ l : List AskL, l.length = k ∧ (∀ x ∈ l, AskOk 281474976710656 x) ∧ ∀ i (h : i < l.length), W.cell? ⟨ab, ao + i * 4, none⟩ = some (.int .i64 l[i].kind) ∧ W.cell? ⟨ab, ao + i * 4 + 1, none⟩ = some (.int .i64 l[i].n) ∧ W.cell? ⟨ab, ao + i * 4 + 2, none⟩ = some (strV l[i].f.1) ∧ W.cell? ⟨ab, ao + i * 4 + 3, none⟩ = some (strV l[i].f.2) := by
      intro k
      induction k with
      | zero => exact fun _ => ⟨[], rfl, by intro x hx; simp at hx, fun i hi => by simp at hi⟩
      | succ k ih =>
        intro hk
        obtain ⟨l, hl1, hl3, hl2⟩ := ih (by omega)
        obtain ⟨f, f1, f2⟩ := hget k (by omega)
        refine ⟨l ++ [f], by simp [hl1], fun x hx => ?_, fun i hi => ?_⟩
        · rcases List.mem_append.1 hx with hx | hx
          · exact hl3 x hx
          · obtain rfl : x = f := by simpa using hx
            exact f2
        · by_cases hik : i < l.length
          · rw [List.getElem_append_left hik]; exact hl2 i hik
          · have : i = k := by simp at hi; omega
            subst this
            rw [List.getElem_append_right (by omega)]
            simpa [hl1] using f1
    obtain ⟨l, hl1, hl3, hl2⟩ := key len (Nat.le_refl _)
    refine ⟨l, Or.inr ⟨ab, ao, cap, by rw [hl1], by omega, hm, hlt, fun i hi => hl2 i hi⟩, hl3, ?_⟩
    rw [List.length_map, List.length_range, hby] at hw0
    unfold reachBytes at hw0
    omega
set_option maxRecDepth 100000 in
theorem open_fieldR {H : Type} {enc : TypeId × Value → H} {W : World} {base : Nat} {v : Value} {d : DataW H} {p : List MemPlace} (hval : Value.okWide Tryd.prog W .any base 28 v) (h : DataW.Trod enc Tryd.prog W 0 (fun _ => true) true 28 v d p) (hw : ∀ n ∈ d.weights Tryd.prog 28, n ≤ reachBytes) :
    ∃ f : FieldL, v = .agg #[.string ⟨f.1.toArray⟩, .string ⟨f.2.toArray⟩] ∧ f.1.length + f.2.length ≤ 281474976710656 := by
  obtain ⟨cs, rfl, hsz⟩ := okWide_struct Tryd.underlying28 hval
  have hC : Tryd.prog.cellsOf 28 = 2 := by kernel_rfl
  have cs1 : Tryd.prog.cellsOf 9 = 1 := by kernel_rfl
  obtain ⟨fuel, hf⟩ := h
  obtain ⟨c0, c1, rfl⟩ : ∃ c0 c1, cs = #[c0, c1] := by
    rw [hC] at hsz
    obtain ⟨l⟩ := cs
    match l, hsz with
    | [c0, c1], _ => exact ⟨c0, c1, rfl⟩
  obtain ⟨xs, n, _, hx, hl, hlen, hfl⟩ := DataW.trod_struct Tryd.underlying28 hf
  have e0 := hfl 0 _ rfl
  have e1 := hfl 1 _ rfl
  match xs, hlen with
  | [y0, y1], _ =>
    simp [Value.cells, cs1] at e0 e1
    obtain ⟨s0, b0, q0, _⟩ := DataW.trod_string Tryd.underlying9 e0
    obtain ⟨s1, b1, q1, _⟩ := DataW.trod_string Tryd.underlying9 e1
    injection b0 with b0 _
    injection b1 with b1 _
    injection hx with hx _
    refine ⟨(s0.data.toList, s1.data.toList), ?_, ?_⟩
    · rw [b0, b1]
    · rw [hx] at hw
      have hwg := wt_struct Tryd.underlying28 hw
      have l0 := wt_string (d := y0.1) (by rw [q0]) (wt_each (j := 0) hwg rfl rfl)
      have l1 := wt_string (d := y1.1) (by rw [q1]) (wt_each (j := 1) hwg rfl rfl)
      show s0.data.toList.length + s1.data.toList.length ≤ _
      unfold reachBytes at l0 l1
      omega
end Go.Proofs.YtmlnboibclfmcaaDoor
