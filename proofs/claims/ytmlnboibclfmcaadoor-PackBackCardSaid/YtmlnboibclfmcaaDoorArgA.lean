/-
  A slice of asks (a kind, a number, a field) that came in, as a list; its bulk.
-/
import Derived.Test.YtmlnboibclfmcaaDoorFl
import Derived.Deep.SlicePairs
import Derived.OpenShut
import Derived.ChangeSlices
import Derived.WideShapes
import Derived.ProofKit
import Derived.ShutString
import Derived.ChangeOld
namespace Go.Proofs.YtmlnboibclfmcaaDoor
open Go.ChangeShapes Go.WideShapes Go.ChangeAt Go.RowKit

structure AskL where
  kind : Int
  n : Int
  f : FieldL
/-- The slice v of asks can be read: they are l. -/
def RbA (w : World) (v : Value) (l : List AskL) : Prop :=
  (v = .slice none 0 0 ∧ l = []) ∨ ∃ b off cap, v = .slice (some ⟨b, off, none⟩) l.length cap ∧ l.length ≤ cap ∧ cap ≤ maxLen ∧ b < w.heap.size ∧ ∀ i (h : i < l.length), w.cell? ⟨b, off + i * 4, none⟩ = some (.int .i64 l[i].kind) ∧ w.cell? ⟨b, off + i * 4 + 1, none⟩ = some (.int .i64 l[i].n) ∧ w.cell? ⟨b, off + i * 4 + 2, none⟩ = some (strV l[i].f.1) ∧ w.cell? ⟨b, off + i * 4 + 3, none⟩ = some (strV l[i].f.2)
theorem RbA.open {w : World} {v : Value} {l : List AskL} (h : RbA w v l) : ∃ (a : Option Addr) (cap b off : Nat), v = .slice a l.length cap ∧ l.length ≤ cap ∧ cap ≤ maxLen ∧ ∀ i (h : i < l.length), a = some ⟨b, off, none⟩ ∧ b < w.heap.size ∧ w.cell? ⟨b, off + i * 4, none⟩ = some (.int .i64 l[i].kind) ∧ w.cell? ⟨b, off + i * 4 + 1, none⟩ = some (.int .i64 l[i].n) ∧ w.cell? ⟨b, off + i * 4 + 2, none⟩ = some (strV l[i].f.1) ∧ w.cell? ⟨b, off + i * 4 + 3, none⟩ = some (strV l[i].f.2) := by
  rcases h with ⟨rfl, rfl⟩ | ⟨b, off, cap, rfl, h1, h2, h3, h4⟩
  · exact ⟨none, 0, 0, 0, rfl, by simp, Nat.zero_le _, fun i h => by simp at h⟩
  · exact ⟨_, cap, b, off, rfl, h1, h2, fun i hi => ⟨rfl, h3, h4 i hi⟩⟩
/-- What each ask may be. -/
structure AskOk (m : Nat) (x : AskL) : Prop where
  k0 : -9223372036854775808 ≤ x.kind
  k1 : x.kind ≤ 9223372036854775807
  n0 : -9223372036854775808 ≤ x.n
  n1 : x.n ≤ 9223372036854775807
  sz : x.f.1.length + x.f.2.length ≤ m
theorem has_ltA {P : Program} {w : World} {r : Reach} {base : Nat} {t e : TypeId} {a : Addr} {len cap : Nat} (ht : P.underlying t = some (.slice e)) (h : Value.okWide P w r base t (.slice (some a) len cap)) : a.spot = none ∧ a.block < w.heap.size := by
  simp only [Value.okWide, ht, Cell.okWide, Cell.ok] at h
  obtain ⟨_, _, _, hs, row, cells, hsh, _⟩ := h
  refine ⟨hs, ?_⟩
  rcases Nat.lt_or_ge a.block w.heap.size with h | h
  · exact h
  · unfold World.shape? at hsh
    rw [Array.getElem?_eq_none h] at hsh
    simp at hsh
theorem bulk_mem {H : Type} {d : DataW H} : ∀ {ds : List (DataW H)}, d ∈ ds → Rows.uptoBulk d ≤ Rows.uptoBulkAll ds
  | x :: ds, h => by
    simp only [Rows.uptoBulkAll]
    rcases List.mem_cons.1 h with rfl | h
    · omega
    · have := bulk_mem h; omega
theorem bulk_len {H : Type} : ∀ {ds : List (DataW H)}, (∀ d ∈ ds, 1 ≤ Rows.uptoBulk d) → ds.length ≤ Rows.uptoBulkAll ds
  | [], _ => Nat.zero_le _
  | x :: ds, h => by
    simp only [Rows.uptoBulkAll, List.length_cons]
    have h1 := h x (by simp)
    have h2 := bulk_len (ds := ds) (fun d hd => h d (by simp [hd]))
    omega
set_option maxRecDepth 100000 in
theorem open_asks {H : Type} {enc : TypeId × Value → H} {W : World} {base : Nat} {v : Value} {d : DataW H} {p : List MemPlace} (hval : Value.okWide Tryd.prog W .any base 36 v) (h : DataW.Trod enc Tryd.prog W 0 (fun _ => true) true 36 v d p) :
    ∃ l : List AskL, RbA W v l ∧ (∀ x ∈ l, AskOk (Rows.uptoBulk d) x) ∧ l.length ≤ Rows.uptoBulk d := by
  obtain ⟨a1, len, cap, rfl⟩ := okWide_slice Tryd.underlying36 hval
  obtain ⟨fuel, hf⟩ := h
  rcases Go.Deep.open_slice Tryd.underlying36 hf with ⟨hcs, hx⟩ | ⟨a, len', cap', m, n, D, Pl, hcs, hb, hl, hm, hmm, hx, hcell⟩
  · simp [Value.cells] at hcs
    obtain ⟨rfl, rfl, rfl⟩ := hcs
    exact ⟨[], Or.inl ⟨rfl, rfl⟩, by intro x hx; simp at hx, Nat.zero_le _⟩
  · simp [Value.cells] at hcs
    obtain ⟨rfl, rfl, rfl⟩ := hcs
    obtain ⟨hs, hlt⟩ := has_ltA Tryd.underlying36 hval
    obtain ⟨ab, ao, spot⟩ := a
    subst hs
    have hlm : len ≤ m := by rw [hmm]; split <;> omega
    have c4 : Tryd.prog.cellsOf 39 = 4 := by kernel_rfl
    have c1 : Tryd.prog.cellsOf 3 = 1 := by kernel_rfl
    have c2 : Tryd.prog.cellsOf 28 = 2 := by kernel_rfl
    have cs1 : Tryd.prog.cellsOf 9 = 1 := by kernel_rfl
    injection hx with hx _
    have hD : ∀ i, i < len → D i ∈ (List.range len).map D := fun i hi => List.mem_map.2 ⟨i, List.mem_range.2 hi, rfl⟩
    have hd1 : ∀ i, i < len → Rows.uptoBulk (D i) ≤ Rows.uptoBulk d := fun i hi => by
      rw [hx]
      simp only [Rows.uptoBulk]
      have := bulk_mem (hD i hi)
      omega
    have hget : ∀ i, i < len → ∃ x : AskL, (W.cell? ⟨ab, ao + i * 4, none⟩ = some (.int .i64 x.kind) ∧ W.cell? ⟨ab, ao + i * 4 + 1, none⟩ = some (.int .i64 x.n) ∧ W.cell? ⟨ab, ao + i * 4 + 2, none⟩ = some (strV x.f.1) ∧ W.cell? ⟨ab, ao + i * 4 + 3, none⟩ = some (strV x.f.2)) ∧ AskOk (Rows.uptoBulk d) x ∧ 1 ≤ Rows.uptoBulk (D i) := by
      intro i hi
      obtain ⟨cs', h1, h2⟩ := hcell i (by omega)
      rw [c4] at h1
      obtain ⟨_, hlen, hcc⟩ := World.cells?_some h1
      obtain ⟨xs, k, _, hxy, _, hxl, hfl⟩ := DataW.trod_struct Tryd.underlying39 h2
      have e0 := hfl 0 _ rfl
      have e1 := hfl 1 _ rfl
      have e2 := hfl 2 _ rfl
      match xs, hxl, cs', hlen with
      | [y0, y1, y2], _, [v0, v1, v2, v3], _ =>
        simp [c1, c2] at e0 e1 e2
        obtain ⟨n0, a0, d0, z0⟩ := DataW.trod_int Tryd.underlying3 e0
        obtain ⟨n1, a1, d1, z1⟩ := DataW.trod_int Tryd.underlying3 e1
        obtain ⟨xs2, k2, _, hxy2, _, hxl2, hfl2⟩ := DataW.trod_struct Tryd.underlying28 e2
        have g0 := hfl2 0 _ rfl
        have g1 := hfl2 1 _ rfl
        match xs2, hxl2 with
        | [u0, u1], _ =>
          simp [cs1] at g0 g1
          obtain ⟨s0, b0, q0, _⟩ := DataW.trod_string Tryd.underlying9 g0
          obtain ⟨s1, b1, q1, _⟩ := DataW.trod_string Tryd.underlying9 g1
          injection a0 with a0 _
          injection a1 with a1 _
          injection b0 with b0 _
          injection b1 with b1 _
          injection hxy with hxy _
          have bd0 := bounds_i64 z0
          have bd1 := bounds_i64 z1
          have w0 := hcc 0 (by omega)
          have w1 := hcc 1 (by omega)
          have w2 := hcc 2 (by omega)
          have w3 := hcc 3 (by omega)
          have hbk : Rows.uptoBulk (D i) = Rows.uptoBulk y0.1 + Rows.uptoBulk y1.1 + (s0.data.toList.length + s1.data.toList.length) + (Rows.uptoBulk (D i) - (Rows.uptoBulk y0.1 + Rows.uptoBulk y1.1 + (s0.data.toList.length + s1.data.toList.length))) ∧ 1 ≤ Rows.uptoBulk (D i) := by
            rw [hxy]
            simp only [List.map_cons, List.map_nil, Rows.uptoBulk, Rows.uptoBulkAll, hxy2, q0, q1, d0, d1]
            omega
          refine ⟨⟨n0, n1, (s0.data.toList, s1.data.toList)⟩, ⟨?_, ?_, ?_, ?_⟩, ⟨bd0.1, bd0.2, bd1.1, bd1.2, ?_⟩, hbk.2⟩
          · rw [Addr.add_lit] at w0
            have : (⟨ab, ao + i * 4, none⟩ : Addr).add 0 = ⟨ab, ao + i * 4, none⟩ := by rw [Addr.add_lit]; rfl
            rw [this] at w0
            rw [w0, a0]; rfl
          · rw [Addr.add_lit, Addr.add_lit] at w1
            rw [w1, a1]; rfl
          · rw [Addr.add_lit, Addr.add_lit] at w2
            rw [w2, b0]; rfl
          · rw [Addr.add_lit, Addr.add_lit] at w3
            rw [w3, b1]; rfl
          · have := hd1 i hi
            show s0.data.toList.length + s1.data.toList.length ≤ _
            omega
    have key : ∀ k, k ≤ len → ∃ l : List AskL, l.length = k ∧ (∀ x ∈ l, AskOk (Rows.uptoBulk d) x) ∧ ∀ i (h : i < l.length), W.cell? ⟨ab, ao + i * 4, none⟩ = some (.int .i64 l[i].kind) ∧ W.cell? ⟨ab, ao + i * 4 + 1, none⟩ = some (.int .i64 l[i].n) ∧ W.cell? ⟨ab, ao + i * 4 + 2, none⟩ = some (strV l[i].f.1) ∧ W.cell? ⟨ab, ao + i * 4 + 3, none⟩ = some (strV l[i].f.2) := by
      intro k
      induction k with
      | zero => exact fun _ => ⟨[], rfl, by intro x hx; simp at hx, fun i hi => by simp at hi⟩
      | succ k ih =>
        intro hk
        obtain ⟨l, hl1, hl3, hl2⟩ := ih (by omega)
        obtain ⟨f, f1, f2, _⟩ := hget k (by omega)
        refine ⟨l ++ [f], by simp [hl1], fun x hx => ?_, fun i hi => ?_⟩
        · rcases List.mem_append.1 hx with hx | hx
          · exact hl3 x hx
          · obtain rfl : x = f := by simpa using hx
            exact f2
        · by_cases hik : i < l.length
          · rw [List.getElem_append_left hik]; exact hl2 i hik
          · have : i = k := by simp at hi; omega
            subst this
            rw [List.getElem_append_right (by omega)]
            simpa [hl1] using f1
    obtain ⟨l, hl1, hl3, hl2⟩ := key len (Nat.le_refl _)
    refine ⟨l, Or.inr ⟨ab, ao, cap, by rw [hl1], by omega, hm, hlt, fun i hi => hl2 i hi⟩, hl3, ?_⟩
    rw [hx]
    simp only [Rows.uptoBulk]
    have h1 := bulk_len (ds := (List.range len).map D) (fun x hx => by
      obtain ⟨i, hi, rfl⟩ := List.mem_map.1 hx
      obtain ⟨_, _, _, h3⟩ := hget i (List.mem_range.1 hi)
      exact h3)
    rw [List.length_map, List.length_range] at h1
    omega

theorem AskOk.mono {m n : Nat} {x : AskL} (h : AskOk m x) (hm : m ≤ n) : AskOk n x := ⟨h.k0, h.k1, h.n0, h.n1, Nat.le_trans h.sz hm⟩
set_option maxRecDepth 100000 in
theorem open_field {H : Type} {enc : TypeId × Value → H} {W : World} {base : Nat} {v : Value} {d : DataW H} {p : List MemPlace} (hval : Value.okWide Tryd.prog W .any base 28 v) (h : DataW.Trod enc Tryd.prog W 0 (fun _ => true) true 28 v d p) :
    ∃ f : FieldL, v = .agg #[.string ⟨f.1.toArray⟩, .string ⟨f.2.toArray⟩] ∧ f.1.length + f.2.length ≤ Rows.uptoBulk d := by
  obtain ⟨cs, rfl, hsz⟩ := okWide_struct Tryd.underlying28 hval
  have hC : Tryd.prog.cellsOf 28 = 2 := by kernel_rfl
  have cs1 : Tryd.prog.cellsOf 9 = 1 := by kernel_rfl
  obtain ⟨fuel, hf⟩ := h
  obtain ⟨c0, c1, rfl⟩ : ∃ c0 c1, cs = #[c0, c1] := by
    rw [hC] at hsz
    obtain ⟨l⟩ := cs
    match l, hsz with
    | [c0, c1], _ => exact ⟨c0, c1, rfl⟩
  obtain ⟨xs, n, _, hx, hl, hlen, hfl⟩ := DataW.trod_struct Tryd.underlying28 hf
  have e0 := hfl 0 _ rfl
  have e1 := hfl 1 _ rfl
  match xs, hlen with
  | [y0, y1], _ =>
    simp [Value.cells, cs1] at e0 e1
    obtain ⟨s0, b0, q0, _⟩ := DataW.trod_string Tryd.underlying9 e0
    obtain ⟨s1, b1, q1, _⟩ := DataW.trod_string Tryd.underlying9 e1
    injection b0 with b0 _
    injection b1 with b1 _
    injection hx with hx _
    refine ⟨(s0.data.toList, s1.data.toList), ?_, ?_⟩
    · rw [b0, b1]
    · rw [hx]
      simp only [List.map_cons, List.map_nil, Rows.uptoBulk, Rows.uptoBulkAll, q0, q1]
      omega

end Go.Proofs.YtmlnboibclfmcaaDoor
