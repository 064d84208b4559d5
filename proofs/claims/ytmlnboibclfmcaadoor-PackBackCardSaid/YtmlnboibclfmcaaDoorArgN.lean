/-
  Slices of slices that came in: blocks of bytes; asks with rows; fields.
-/
import Derived.Test.YtmlnboibclfmcaaDoorArgW
import Derived.Test.YtmlnboibclfmcaaDoorArg
namespace Go.Proofs.YtmlnboibclfmcaaDoor
open Go.ChangeShapes Go.WideShapes Go.ChangeAt Go.RowKit
set_option linter.unusedVariables false

theorem choose_list {α : Type} {P : Nat → α → Prop} : ∀ (len : Nat), (∀ i, i < len → ∃ x, P i x) → ∃ l : List α, l.length = len ∧ ∀ i (h : i < l.length), P i l[i]
  | 0, _ => ⟨[], rfl, fun i h => by simp at h⟩
  | len + 1, h => by
    obtain ⟨l, h1, h2⟩ := choose_list len (fun i hi => h i (by omega))
    obtain ⟨x, hx⟩ := h len (by omega)
    refine ⟨l ++ [x], by simp [h1], fun i hi => ?_⟩
    by_cases hik : i < l.length
    · rw [List.getElem_append_left hik]; exact h2 i hik
    · have : i = len := by simp at hi; omega
      subst this
      rw [List.getElem_append_right (by omega)]
      simpa [h1] using hx
theorem cell_at {w : World} {a : Addr} {v : Value} (h : w.cell? a = some v) : a.spot = none ∧ a.block < w.heap.size := by
  unfold World.cell? at h
  constructor
  · cases hs : a.spot with
    | none => rfl
    | some s =>
      rw [hs] at h
      simp only [Option.isSome_some, if_true] at h
      split at h <;> cases h
  · rcases Nat.lt_or_ge a.block w.heap.size with h1 | h1
    · exact h1
    · rw [Array.getElem?_eq_none h1] at h
      cases h
theorem add_zero_addr (a : Addr) : a.add 0 = a := by simp [Addr.add]
set_option maxRecDepth 100000 in
theorem open_bytesD {H : Type} {enc : TypeId × Value → H} {W : World} {v : Value} {fuel : Nat} {x : DataW H × List MemPlace} (hf : DataW.trod enc Tryd.prog W 0 (fun _ => true) true fuel 54 [v] = some x) :
    ∃ l : List UInt8, Rb W v l := by
  rcases open_ints Tryd.underlying54 Tryd.underlying5 cells8 hf with ⟨hcs, hx⟩ | ⟨a, len, cap, zs, hcs, _, hl, hm, hz, hx, hcell, hwz⟩
  · injection hcs with hcs _
    subst hcs
    exact ⟨[], Or.inl ⟨⟨none, rfl⟩, rfl⟩⟩
  · injection hcs with hcs _
    subst hcs
    simp only [if_true] at hz
    by_cases hc : cap = 0
    · subst hc
      obtain rfl : len = 0 := by omega
      exact ⟨[], Or.inl ⟨⟨_, rfl⟩, rfl⟩⟩
    have h0 := hcell 0 (by omega)
    rw [add_zero_addr] at h0
    obtain ⟨hs, hlt⟩ := cell_at h0
    obtain ⟨ab, ao, spot⟩ := a
    subst hs
    refine ⟨(zs.take len).map byteOf, Or.inr ⟨ab, ao, cap, ?_, ?_, hm, hlt, fun i hi => ?_⟩⟩
    · congr 1
      simp
      omega
    · simp
      omega
    · simp at hi
      have hcj := hcell i (by omega)
      rw [Addr.add_lit] at hcj
      rw [hcj]
      have e : zs.getD i 0 = zs[i]'(by omega) := by simp [List.getD, List.getElem?_eq_getElem (show i < zs.length by omega)]
      have hb := range_u8 hwz i
      rw [← List.getD_eq_getElem?_getD, e] at hb
      rw [e]
      simp only [List.getElem_map, List.getElem_take]
      rw [byteOf_toNat (by omega) (by omega)]
/-- A slice of slices of bytes that can be read. -/
def RbBB (w : World) (v : Value) (L : List (List UInt8)) : Prop :=
  ((∃ a, v = .slice a 0 0) ∧ L = []) ∨ ∃ b off cap, v = .slice (some ⟨b, off, none⟩) L.length cap ∧ L.length ≤ cap ∧ cap ≤ maxLen ∧ b < w.heap.size ∧ ∀ i (h : i < L.length), ∃ u, w.cell? ⟨b, off + i, none⟩ = some u ∧ Rb w u L[i]
theorem RbBB.open {w : World} {v : Value} {l : List (List UInt8)} (h : RbBB w v l) : ∃ (a : Option Addr) (cap b off : Nat), v = .slice a l.length cap ∧ l.length ≤ cap ∧ cap ≤ maxLen ∧ ∀ i (h : i < l.length), a = some ⟨b, off, none⟩ ∧ b < w.heap.size ∧ ∃ u, w.cell? ⟨b, off + i, none⟩ = some u ∧ Rb w u l[i] := by
  rcases h with ⟨⟨a0, rfl⟩, rfl⟩ | ⟨b, off, cap, rfl, h1, h2, h3, h4⟩
  · exact ⟨a0, 0, 0, 0, rfl, by simp, Nat.zero_le _, fun i h => by simp at h⟩
  · exact ⟨_, cap, b, off, rfl, h1, h2, fun i hi => ⟨rfl, h3, h4 i hi⟩⟩
set_option maxRecDepth 100000 in
theorem open_blocks {H : Type} {enc : TypeId × Value → H} {W : World} {base : Nat} {v : Value} {d : DataW H} {p : List MemPlace} (hval : Value.okWide Tryd.prog W .any base 81 v) (h : DataW.Trod enc Tryd.prog W 0 (fun _ => true) true 81 v d p) :
    ∃ L : List (List UInt8), RbBB W v L := by
  obtain ⟨a1, len, cap, rfl⟩ := okWide_slice Tryd.underlying81 hval
  obtain ⟨fuel, hf⟩ := h
  have c1 : Tryd.prog.cellsOf 54 = 1 := by kernel_rfl
  rcases Go.Deep.open_slice1 Tryd.underlying81 c1 hf with ⟨hcs, hx⟩ | ⟨a, len', cap', m, n, V, D, Pl, hcs, hb, hl, hm, hmm, hx, hcell⟩
  · simp [Value.cells] at hcs
    obtain ⟨rfl, rfl, rfl⟩ := hcs
    exact ⟨[], Or.inl ⟨⟨none, rfl⟩, rfl⟩⟩
  · simp [Value.cells] at hcs
    obtain ⟨rfl, rfl, rfl⟩ := hcs
    obtain ⟨hs, hlt⟩ := has_ltA Tryd.underlying81 hval
    obtain ⟨ab, ao, spot⟩ := a
    subst hs
    have hlm : len ≤ m := by rw [hmm]; split <;> omega
    obtain ⟨L, hl1, hl2⟩ := choose_list (P := fun i (x : List UInt8) => ∃ u, W.cell? ⟨ab, ao + i, none⟩ = some u ∧ Rb W u x) len (fun i hi => by
      obtain ⟨h1, h2⟩ := hcell i (by omega)
      obtain ⟨l, hl⟩ := open_bytesD h2
      rw [Addr.add_lit] at h1
      exact ⟨l, V i, h1, hl⟩)
    exact ⟨L, Or.inr ⟨ab, ao, cap, by rw [hl1], by omega, hm, hlt, hl2⟩⟩
set_option maxRecDepth 100000 in
theorem open_rowsD {H : Type} {enc : TypeId × Value → H} {W : World} {v : Value} {fuel : Nat} {x : DataW H × List MemPlace} (hf : DataW.trod enc Tryd.prog W 0 (fun _ => true) true fuel 59 [v] = some x) :
    ∃ l : List RowL, RbW W v l ∧ sumR l ≤ 32 * Rows.uptoBulk x.1 ∧ ∀ r ∈ l, -9223372036854775808 ≤ r.how ∧ r.how ≤ 9223372036854775807 := by
  rcases Go.Deep.open_slice Tryd.underlying59 hf with ⟨hcs, hx⟩ | ⟨a, len, cap, m, n, D, Pl, hcs, hb, hl, hm, hmm, hx, hcell⟩
  · injection hcs with hcs _
    subst hcs
    exact ⟨[], Or.inl ⟨⟨none, rfl⟩, rfl⟩, Nat.zero_le _, by intro x hx; simp at hx⟩
  · injection hcs with hcs _
    subst hcs
    simp only [if_true] at hmm
    have c4 : Tryd.prog.cellsOf 57 = 3 := by kernel_rfl
    by_cases hc : cap = 0
    · subst hc
      obtain rfl : len = 0 := by omega
      exact ⟨[], Or.inl ⟨⟨_, rfl⟩, rfl⟩, Nat.zero_le _, by intro x hx; simp at hx⟩
    have h00 : a.spot = none ∧ a.block < W.heap.size := by
      obtain ⟨cs', h1, h2⟩ := hcell 0 (by omega)
      rw [c4] at h1
      obtain ⟨_, hlen, hcc⟩ := World.cells?_some h1
      have h3 := hcc 0 (by omega)
      rw [Nat.zero_mul, add_zero_addr, add_zero_addr, List.getElem?_eq_getElem (by rw [hlen]; omega)] at h3
      exact cell_at h3
    obtain ⟨hs, hlt⟩ := h00
    obtain ⟨ab, ao, spot⟩ := a
    subst hs
    have hlm : len ≤ m := by omega
    have c1 : Tryd.prog.cellsOf 3 = 1 := by kernel_rfl
    have c2 : Tryd.prog.cellsOf 28 = 2 := by kernel_rfl
    have cs1 : Tryd.prog.cellsOf 9 = 1 := by kernel_rfl
    have hget : ∀ i, i < len → ∃ x : RowL, (W.cell? ⟨ab, ao + i * 3, none⟩ = some (strV x.f.1) ∧ W.cell? ⟨ab, ao + i * 3 + 1, none⟩ = some (strV x.f.2) ∧ W.cell? ⟨ab, ao + i * 3 + 2, none⟩ = some (.int .i64 x.how)) ∧ (-9223372036854775808 ≤ x.how ∧ x.how ≤ 9223372036854775807) ∧ x.f.1.length + x.f.2.length + 1 ≤ Rows.uptoBulk (D i) := by
      intro i hi
      obtain ⟨cs', h1, h2⟩ := hcell i (by omega)
      rw [c4] at h1
      obtain ⟨_, hlen, hcc⟩ := World.cells?_some h1
      obtain ⟨xs, k, _, hxy, _, hxl, hfl⟩ := DataW.trod_struct Tryd.underlying57 h2
      have e0 := hfl 0 _ rfl
      have e1 := hfl 1 _ rfl
      match xs, hxl, cs', hlen with
      | [y0, y1], _, [v0, v1, v2], _ =>
        simp [c1, c2] at e0 e1
        obtain ⟨n2, a2, d2, z2⟩ := DataW.trod_int Tryd.underlying3 e1
        obtain ⟨xs2, k2, _, hxy2, _, hxl2, hfl2⟩ := DataW.trod_struct Tryd.underlying28 e0
        have g0 := hfl2 0 _ rfl
        have g1 := hfl2 1 _ rfl
        match xs2, hxl2 with
        | [u0, u1], _ =>
          simp [cs1] at g0 g1
          obtain ⟨s0, b0, q0, _⟩ := DataW.trod_string Tryd.underlying9 g0
          obtain ⟨s1, b1, q1, _⟩ := DataW.trod_string Tryd.underlying9 g1
          injection a2 with a2 _
          injection b0 with b0 _
          injection b1 with b1 _
          injection hxy with hxy _
          have bd2 := bounds_i64 z2
          have w0 := hcc 0 (by omega)
          have w1 := hcc 1 (by omega)
          have w2 := hcc 2 (by omega)
          have hbk : s0.data.toList.length + s1.data.toList.length + 1 ≤ Rows.uptoBulk (D i) := by
            rw [hxy]
            simp only [List.map_cons, List.map_nil, Rows.uptoBulk, Rows.uptoBulkAll, hxy2, q0, q1, d2]
            omega
          refine ⟨⟨(s0.data.toList, s1.data.toList), n2⟩, ⟨?_, ?_, ?_⟩, bd2, hbk⟩
          · rw [Addr.add_lit] at w0
            have : (⟨ab, ao + i * 3, none⟩ : Addr).add 0 = ⟨ab, ao + i * 3, none⟩ := by rw [Addr.add_lit]; rfl
            rw [this] at w0
            rw [w0, b0]; rfl
          · rw [Addr.add_lit, Addr.add_lit] at w1
            rw [w1, b1]; rfl
          · rw [Addr.add_lit, Addr.add_lit] at w2
            rw [w2, a2]; rfl
    obtain ⟨l, hl1, hl2⟩ := choose_list len hget
    refine ⟨l, Or.inr ⟨ab, ao, cap, by rw [hl1], by omega, hm, hlt, fun i hi => (hl2 i hi).1⟩, ?_, fun r hr => ?_⟩
    · rw [hx]
      simp only [Rows.uptoBulk]
      have h1 := sumR_bulk D l 0 (fun i hi => by rw [Nat.zero_add]; exact (hl2 i hi).2.2)
      rw [hl1, ← List.range_eq_range'] at h1
      omega
    · obtain ⟨i, hi, rfl⟩ := List.mem_iff_getElem.1 hr
      exact (hl2 i hi).2.1
structure AskR where
  kind : Int
  n : Int
  rows : List RowL
/-- A slice of asks with rows that can be read. -/
def RbK (w : World) (v : Value) (L : List AskR) : Prop :=
  ((∃ a, v = .slice a 0 0) ∧ L = []) ∨ ∃ b off cap, v = .slice (some ⟨b, off, none⟩) L.length cap ∧ L.length ≤ cap ∧ cap ≤ maxLen ∧ b < w.heap.size ∧ ∀ i (h : i < L.length), w.cell? ⟨b, off + i * 3, none⟩ = some (.int .i64 L[i].kind) ∧ w.cell? ⟨b, off + i * 3 + 1, none⟩ = some (.int .i64 L[i].n) ∧ ∃ u, w.cell? ⟨b, off + i * 3 + 2, none⟩ = some u ∧ RbW w u L[i].rows
theorem RbK.open {w : World} {v : Value} {l : List AskR} (h : RbK w v l) : ∃ (a : Option Addr) (cap b off : Nat), v = .slice a l.length cap ∧ l.length ≤ cap ∧ cap ≤ maxLen ∧ ∀ i (h : i < l.length), a = some ⟨b, off, none⟩ ∧ b < w.heap.size ∧ w.cell? ⟨b, off + i * 3, none⟩ = some (.int .i64 l[i].kind) ∧ w.cell? ⟨b, off + i * 3 + 1, none⟩ = some (.int .i64 l[i].n) ∧ ∃ u, w.cell? ⟨b, off + i * 3 + 2, none⟩ = some u ∧ RbW w u l[i].rows := by
  rcases h with ⟨⟨a0, rfl⟩, rfl⟩ | ⟨b, off, cap, rfl, h1, h2, h3, h4⟩
  · exact ⟨a0, 0, 0, 0, rfl, by simp, Nat.zero_le _, fun i h => by simp at h⟩
  · exact ⟨_, cap, b, off, rfl, h1, h2, fun i hi => ⟨rfl, h3, h4 i hi⟩⟩
/-- What each ask may be. -/
structure AskROk (m : Nat) (x : AskR) : Prop where
  k0 : -9223372036854775808 ≤ x.kind
  k1 : x.kind ≤ 9223372036854775807
  n0 : -9223372036854775808 ≤ x.n
  n1 : x.n ≤ 9223372036854775807
  sz : sumR x.rows ≤ 32 * m
  how : ∀ r ∈ x.rows, -9223372036854775808 ≤ r.how ∧ r.how ≤ 9223372036854775807
set_option maxRecDepth 100000 in
theorem open_asks8 {H : Type} {enc : TypeId × Value → H} {W : World} {base : Nat} {v : Value} {d : DataW H} {p : List MemPlace} (hval : Value.okWide Tryd.prog W .any base 63 v) (h : DataW.Trod enc Tryd.prog W 0 (fun _ => true) true 63 v d p) :
    ∃ l : List AskR, RbK W v l ∧ ∀ x ∈ l, AskROk (Rows.uptoBulk d) x := by
  obtain ⟨a1, len, cap, rfl⟩ := okWide_slice Tryd.underlying63 hval
  obtain ⟨fuel, hf⟩ := h
  rcases Go.Deep.open_slice Tryd.underlying63 hf with ⟨hcs, hx⟩ | ⟨a, len', cap', m, n, D, Pl, hcs, hb, hl, hm, hmm, hx, hcell⟩
  · simp [Value.cells] at hcs
    obtain ⟨rfl, rfl, rfl⟩ := hcs
    exact ⟨[], Or.inl ⟨⟨none, rfl⟩, rfl⟩, by intro x hx; simp at hx⟩
  · simp [Value.cells] at hcs
    obtain ⟨rfl, rfl, rfl⟩ := hcs
    obtain ⟨hs, hlt⟩ := has_ltA Tryd.underlying63 hval
    obtain ⟨ab, ao, spot⟩ := a
    subst hs
    have hlm : len ≤ m := by rw [hmm]; split <;> omega
    have c3 : Tryd.prog.cellsOf 68 = 3 := by kernel_rfl
    have c1 : Tryd.prog.cellsOf 3 = 1 := by kernel_rfl
    have cs1 : Tryd.prog.cellsOf 59 = 1 := by kernel_rfl
    injection hx with hx _
    have hD : ∀ i, i < len → D i ∈ (List.range len).map D := fun i hi => List.mem_map.2 ⟨i, List.mem_range.2 hi, rfl⟩
    have hd1 : ∀ i, i < len → Rows.uptoBulk (D i) ≤ Rows.uptoBulk d := fun i hi => by
      rw [hx]
      simp only [Rows.uptoBulk]
      have := bulk_mem (hD i hi)
      omega
    have hget : ∀ i, i < len → ∃ x : AskR, (W.cell? ⟨ab, ao + i * 3, none⟩ = some (.int .i64 x.kind) ∧ W.cell? ⟨ab, ao + i * 3 + 1, none⟩ = some (.int .i64 x.n) ∧ ∃ u, W.cell? ⟨ab, ao + i * 3 + 2, none⟩ = some u ∧ RbW W u x.rows) ∧ AskROk (Rows.uptoBulk d) x := by
      intro i hi
      obtain ⟨cs', h1, h2⟩ := hcell i (by omega)
      rw [c3] at h1
      obtain ⟨_, hlen, hcc⟩ := World.cells?_some h1
      obtain ⟨xs, k, _, hxy, _, hxl, hfl⟩ := DataW.trod_struct Tryd.underlying68 h2
      have e0 := hfl 0 _ rfl
      have e1 := hfl 1 _ rfl
      have e2 := hfl 2 _ rfl
      match xs, hxl, cs', hlen with
      | [y0, y1, y2], _, [v0, v1, v2], _ =>
        simp [c1, cs1] at e0 e1 e2
        obtain ⟨n0, a0, d0, z0⟩ := DataW.trod_int Tryd.underlying3 e0
        obtain ⟨n1, a1, d1, z1⟩ := DataW.trod_int Tryd.underlying3 e1
        obtain ⟨R, r1, r2, r3⟩ := open_rowsD e2
        injection a0 with a0 _
        injection a1 with a1 _
        injection hxy with hxy _
        have bd0 := bounds_i64 z0
        have bd1 := bounds_i64 z1
        have w0 := hcc 0 (by omega)
        have w1 := hcc 1 (by omega)
        have w2 := hcc 2 (by omega)
        have hbk : Rows.uptoBulk y2.1 ≤ Rows.uptoBulk (D i) := by
          rw [hxy]
          simp only [List.map_cons, List.map_nil, Rows.uptoBulk, Rows.uptoBulkAll]
          omega
        have hdi := hd1 i hi
        refine ⟨⟨n0, n1, R⟩, ⟨?_, ?_, v2, ?_, r1⟩, ⟨bd0.1, bd0.2, bd1.1, bd1.2, by show sumR R ≤ _; omega, r3⟩⟩
        · rw [Addr.add_lit] at w0
          have : (⟨ab, ao + i * 3, none⟩ : Addr).add 0 = ⟨ab, ao + i * 3, none⟩ := by rw [Addr.add_lit]; rfl
          rw [this] at w0
          rw [w0, a0]; rfl
        · rw [Addr.add_lit, Addr.add_lit] at w1
          rw [w1, a1]; rfl
        · rw [Addr.add_lit, Addr.add_lit] at w2
          rw [w2]; rfl
    obtain ⟨l, hl1, hl2⟩ := choose_list len hget
    refine ⟨l, Or.inr ⟨ab, ao, cap, by rw [hl1], by omega, hm, hlt, fun i hi => (hl2 i hi).1⟩, fun x hx => ?_⟩
    obtain ⟨i, hi, rfl⟩ := List.mem_iff_getElem.1 hx
    exact (hl2 i hi).2
set_option maxRecDepth 100000 in
theorem open_fields7 {H : Type} {enc : TypeId × Value → H} {W : World} {base : Nat} {v : Value} {d : DataW H} {p : List MemPlace} (hval : Value.okWide Tryd.prog W .any base 47 v) (h : DataW.Trod enc Tryd.prog W 0 (fun _ => true) true 47 v d p) :
    ∃ l : List FieldL, RbF W v l := by
  obtain ⟨a1, len, cap, rfl⟩ := okWide_slice Tryd.underlying47 hval
  obtain ⟨fuel, hf⟩ := h
  have c2 : Tryd.prog.cellsOf 28 = 2 := by kernel_rfl
  have cs1 : Tryd.prog.cellsOf 9 = 1 := by kernel_rfl
  rcases Go.Deep.open_slice Tryd.underlying47 hf with ⟨hcs, hx⟩ | ⟨a, len', cap', m, n, D, Pl, hcs, hb, hl, hm, hmm, hx, hcell⟩
  · simp [Value.cells] at hcs
    obtain ⟨rfl, rfl, rfl⟩ := hcs
    exact ⟨[], Or.inl ⟨rfl, rfl⟩⟩
  · simp [Value.cells] at hcs
    obtain ⟨rfl, rfl, rfl⟩ := hcs
    obtain ⟨hs, hlt⟩ := has_ltA Tryd.underlying47 hval
    obtain ⟨ab, ao, spot⟩ := a
    subst hs
    have hlm : len ≤ m := by rw [hmm]; split <;> omega
    have hget : ∀ i, i < len → ∃ x : FieldL, W.cell? ⟨ab, ao + i * 2, none⟩ = some (strV x.1) ∧ W.cell? ⟨ab, ao + i * 2 + 1, none⟩ = some (strV x.2) := by
      intro i hi
      obtain ⟨cs', h1, h2⟩ := hcell i (by omega)
      rw [c2] at h1
      obtain ⟨_, hlen, hcc⟩ := World.cells?_some h1
      obtain ⟨xs2, k2, _, hxy2, _, hxl2, hfl2⟩ := DataW.trod_struct Tryd.underlying28 h2
      have g0 := hfl2 0 _ rfl
      have g1 := hfl2 1 _ rfl
      match xs2, hxl2, cs', hlen with
      | [u0, u1], _, [v0, v1], _ =>
        simp [cs1] at g0 g1
        obtain ⟨s0, b0, q0, _⟩ := DataW.trod_string Tryd.underlying9 g0
        obtain ⟨s1, b1, q1, _⟩ := DataW.trod_string Tryd.underlying9 g1
        injection b0 with b0 _
        injection b1 with b1 _
        have w0 := hcc 0 (by omega)
        have w1 := hcc 1 (by omega)
        refine ⟨(s0.data.toList, s1.data.toList), ?_, ?_⟩
        · rw [Addr.add_lit] at w0
          have : (⟨ab, ao + i * 2, none⟩ : Addr).add 0 = ⟨ab, ao + i * 2, none⟩ := by rw [Addr.add_lit]; rfl
          rw [this] at w0
          rw [w0, b0]; rfl
        · rw [Addr.add_lit, Addr.add_lit] at w1
          rw [w1, b1]; rfl
    obtain ⟨l, hl1, hl2⟩ := choose_list len hget
    exact ⟨l, Or.inr ⟨ab, ao, cap, by rw [hl1], by omega, hm, hlt, hl2⟩⟩
end Go.Proofs.YtmlnboibclfmcaaDoor
