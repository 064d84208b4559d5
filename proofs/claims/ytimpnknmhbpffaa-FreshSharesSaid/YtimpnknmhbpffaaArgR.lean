/-
  Slices of fields that came in, requests and responses by value: opened.
-/
import Derived.Test.YtimpnknmhbpffaaArgF
import Derived.OpenShut
import Derived.ChangeSlices
import Derived.WideShapes
import Derived.ProofKit
import Derived.ShutString
import Derived.ChangeOld
namespace Go.Proofs.Ytimpnknmhbpffaa
open Go.ChangeShapes Go.WideShapes Go.ChangeAt Go.RowKit

theorem row_cell {P : Program} {w : World} {r : Reach} {base : Nat} {t : TypeId} {cs : Array Value} (ts : List TypeId) (hts : P.cellTypes P.depth t = some ts) (h : Row.okWide P w r base t cs) {i : Nat} {u : TypeId} {v : Value} (hu : ts[i % ts.length]? = some u) (hv : cs[i]? = some v) : Cell.okWide P w r base u v := by
  obtain ⟨ts', h1, _, h3⟩ := h
  rw [hts] at h1
  obtain rfl := Option.some.inj h1
  obtain ⟨u', h4, h5⟩ := h3 i v hv
  rw [hu] at h4
  obtain rfl := Option.some.inj h4
  exact h5
theorem slice_cell {P : Program} {w : World} {r : Reach} {base : Nat} {t e : TypeId} {v : Value} (ht : P.underlying t = some (.slice e)) (h : Cell.okWide P w r base t v) : Value.okWide P w r base t v := by
  unfold Value.okWide
  rw [ht]
  exact h
set_option maxRecDepth 100000 in
theorem open_req {H : Type} {enc : TypeId × Value → H} {W : World} {base : Nat} {v : Value} {d : DataW H} {p : List MemPlace} (hval : Value.okWide Try.prog W .any base 25 v) (h : DataW.Trod enc Try.prog W 0 (fun _ => true) true 25 v d p) :
    ∃ (m x1 x2 x3 : ByteArray) (vq : Value) (n : Int) (l : List FieldL), v = .agg #[.string m, .string x1, .string x2, .string x3, vq, .int .i64 n] ∧ (m.size ≤ maxLen ∧ x1.size ≤ maxLen ∧ x2.size ≤ maxLen ∧ x3.size ≤ maxLen) ∧ RbF W vq l ∧ bulkF l ≤ Rows.uptoBulk d ∧ -9223372036854775808 ≤ n ∧ n ≤ 9223372036854775807 := by
  obtain ⟨fs, hs⟩ : ∃ fs, Try.prog.underlying 25 = some (.struct fs) := ⟨_, Try.underlying25⟩
  obtain ⟨cs, rfl, hsz⟩ := okWide_struct hs hval
  have hC : Try.prog.cellsOf 25 = 6 := by kernel_rfl
  have hrow : Row.okWide Try.prog W .any base 25 cs := by
    simp only [Value.okWide, hs] at hval
    obtain ⟨cs', h1, _, h3⟩ := hval
    injection h1 with h1
    rw [h1]; exact h3
  obtain ⟨fuel, hf⟩ := h
  obtain ⟨c0, c1, c2, c3, c4, c5, rfl⟩ : ∃ c0 c1 c2 c3 c4 c5, cs = #[c0, c1, c2, c3, c4, c5] := by
    rw [hC] at hsz
    obtain ⟨l⟩ := cs
    match l, hsz with
    | [c0, c1, c2, c3, c4, c5], _ => exact ⟨c0, c1, c2, c3, c4, c5, rfl⟩
  have h4 := slice_cell Try.underlying23 (row_cell [9, 9, 9, 9, 23, 3] (by kernel_rfl) hrow (i := 4) rfl rfl)
  obtain ⟨xs, n, _, hx, hl, hlen, hfl⟩ := DataW.trod_struct Try.underlying25 hf
  clear hs hval hrow hsz
  have e0 := hfl 0 _ rfl
  have e1 := hfl 1 _ rfl
  have e2 := hfl 2 _ rfl
  have e3 := hfl 3 _ rfl
  have e4 := hfl 4 _ rfl
  have e5 := hfl 5 _ rfl
  clear hfl hl
  injection hx with hx _
  match xs, hlen with
  | [y0, y1, y2, y3, y4, y5], _ =>
    simp only [Value.cells, List.getElem?_cons_succ, List.getElem?_cons_zero] at e0 e1 e2 e3 e4 e5
    obtain ⟨s0, a0, -, z0⟩ := DataW.trod_string Try.underlying9 e0
    obtain ⟨s1, a1, -, z1⟩ := DataW.trod_string Try.underlying9 e1
    obtain ⟨s2, a2, -, z2⟩ := DataW.trod_string Try.underlying9 e2
    obtain ⟨s3, a3, -, z3⟩ := DataW.trod_string Try.underlying9 e3
    obtain ⟨n5, a5, -, z5⟩ := DataW.trod_int Try.underlying3 e5
    obtain ⟨l, hr, hb⟩ := open_fieldsB h4 ⟨n, by
      obtain ⟨a, b, c, rfl⟩ := okWide_slice Try.underlying23 h4
      exact e4⟩
    injection a0 with a0 _
    injection a1 with a1 _
    injection a2 with a2 _
    injection a3 with a3 _
    injection a5 with a5 _
    subst a0 a1 a2 a3 a5
    have hb5 := bounds_i64 z5
    refine ⟨s0, s1, s2, s3, c4, n5, l, rfl, ⟨z0, z1, z2, z3⟩, hr, ?_, hb5.1, hb5.2⟩
    rw [hx]
    simp only [List.map_cons, List.map_nil, Rows.uptoBulk, Rows.uptoBulkAll]
    omega
set_option maxRecDepth 100000 in
theorem open_res {H : Type} {enc : TypeId × Value → H} {W : World} {base : Nat} {v : Value} {d : DataW H} {p : List MemPlace} (hval : Value.okWide Try.prog W .any base 27 v) (h : DataW.Trod enc Try.prog W 0 (fun _ => true) true 27 v d p) :
    ∃ (st : Int) (vs : Value) (n : Int) (l : List FieldL), v = .agg #[.int .i64 st, vs, .int .i64 n] ∧ RbF W vs l ∧ bulkF l ≤ Rows.uptoBulk d ∧ (-9223372036854775808 ≤ st ∧ st ≤ 9223372036854775807) ∧ -9223372036854775808 ≤ n ∧ n ≤ 9223372036854775807 := by
  obtain ⟨fs, hs⟩ : ∃ fs, Try.prog.underlying 27 = some (.struct fs) := ⟨_, Try.underlying27⟩
  obtain ⟨cs, rfl, hsz⟩ := okWide_struct hs hval
  have hC : Try.prog.cellsOf 27 = 3 := by kernel_rfl
  have hrow : Row.okWide Try.prog W .any base 27 cs := by
    simp only [Value.okWide, hs] at hval
    obtain ⟨cs', h1, _, h3⟩ := hval
    injection h1 with h1
    rw [h1]; exact h3
  obtain ⟨fuel, hf⟩ := h
  obtain ⟨c0, c1, c2, rfl⟩ : ∃ c0 c1 c2, cs = #[c0, c1, c2] := by
    rw [hC] at hsz
    obtain ⟨l⟩ := cs
    match l, hsz with
    | [c0, c1, c2], _ => exact ⟨c0, c1, c2, rfl⟩
  have h4 := slice_cell Try.underlying23 (row_cell [3, 23, 3] (by kernel_rfl) hrow (i := 1) rfl rfl)
  obtain ⟨xs, n, _, hx, hl, hlen, hfl⟩ := DataW.trod_struct Try.underlying27 hf
  clear hs hval hrow hsz
  have e0 := hfl 0 _ rfl
  have e1 := hfl 1 _ rfl
  have e2 := hfl 2 _ rfl
  clear hfl hl
  injection hx with hx _
  match xs, hlen with
  | [y0, y1, y2], _ =>
    simp only [Value.cells, List.getElem?_cons_succ, List.getElem?_cons_zero] at e0 e1 e2
    obtain ⟨n0, a0, -, z0⟩ := DataW.trod_int Try.underlying3 e0
    obtain ⟨n2, a2, -, z2⟩ := DataW.trod_int Try.underlying3 e2
    obtain ⟨l, hr, hb⟩ := open_fieldsB h4 ⟨n, by
      obtain ⟨a, b, c, rfl⟩ := okWide_slice Try.underlying23 h4
      exact e1⟩
    injection a0 with a0 _
    injection a2 with a2 _
    subst a0 a2
    refine ⟨n0, c1, n2, l, rfl, hr, ?_, bounds_i64 z0, bounds_i64 z2⟩
    rw [hx]
    simp only [List.map_cons, List.map_nil, Rows.uptoBulk, Rows.uptoBulkAll]
    omega

end Go.Proofs.Ytimpnknmhbpffaa
