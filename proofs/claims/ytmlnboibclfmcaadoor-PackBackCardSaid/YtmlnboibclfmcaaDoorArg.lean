/-
  A slice of bytes that came in, as a list.
-/
import Derived.Test.YtmlnboibclfmcaaDoorBuf
import Derived.OpenShut
import Derived.ChangeSlices
import Derived.WideShapes
import Derived.ProofKit
import Derived.ShutString
import Derived.ChangeOld
namespace Go.Proofs.YtmlnboibclfmcaaDoor
open Go.ChangeShapes Go.WideShapes Go.ChangeAt Go.RowKit

theorem cells8 : Tryd.prog.cellsOf 5 = 1 := by kernel_rfl
theorem has_lt {P : Program} {w : World} {r : Reach} {base : Nat} {t e : TypeId} {a : Addr} {len cap : Nat} (ht : P.underlying t = some (.slice e)) (h : Value.okWide P w r base t (.slice (some a) len cap)) : a.spot = none ∧ a.block < w.heap.size := by
  simp only [Value.okWide, ht, Cell.okWide, Cell.ok] at h
  obtain ⟨_, _, _, hs, row, cells, hsh, _⟩ := h
  refine ⟨hs, ?_⟩
  rcases Nat.lt_or_ge a.block w.heap.size with h | h
  · exact h
  · unfold World.shape? at hsh
    rw [Array.getElem?_eq_none h] at hsh
    simp at hsh
set_option maxRecDepth 100000 in
theorem open_bytes {H : Type} {enc : TypeId × Value → H} {W : World} {base : Nat} {v : Value} {d : DataW H} {p : List MemPlace} (hval : Value.okWide Tryd.prog W .any base 54 v) (h : DataW.Trod enc Tryd.prog W 0 (fun _ => true) true 54 v d p) :
    ∃ l : List UInt8, Rb W v l := by
  obtain ⟨a1, len, cap, rfl⟩ := okWide_slice Tryd.underlying54 hval
  obtain ⟨fuel, hf⟩ := h
  rcases open_ints Tryd.underlying54 Tryd.underlying5 cells8 hf with ⟨hcs, hx⟩ | ⟨a, len', cap', zs, hcs, _, hl, hm, hz, hx, hcell, hwz⟩
  · simp [Value.cells] at hcs
    obtain ⟨rfl, rfl, rfl⟩ := hcs
    exact ⟨[], Or.inl ⟨⟨none, rfl⟩, rfl⟩⟩
  · simp [Value.cells] at hcs
    obtain ⟨rfl, rfl, rfl⟩ := hcs
    obtain ⟨hs, hlt⟩ := has_lt Tryd.underlying54 hval
    obtain ⟨ab, ao, spot⟩ := a
    subst hs
    simp only [if_true] at hz
    refine ⟨(zs.take len).map byteOf, Or.inr ⟨ab, ao, cap, ?_, ?_, hm, hlt, fun i hi => ?_⟩⟩
    · congr 1
      simp
      omega
    · simp
      omega
    · simp at hi
      have hcj := hcell i (by omega)
      rw [Addr.add_lit] at hcj
      rw [hcj]
      have e : zs.getD i 0 = zs[i]'(by omega) := by simp [List.getD, List.getElem?_eq_getElem (show i < zs.length by omega)]
      have hb := range_u8 hwz i
      rw [← List.getD_eq_getElem?_getD, e] at hb
      rw [e]
      simp only [List.getElem_map, List.getElem_take]
      rw [byteOf_toNat (by omega) (by omega)]

end Go.Proofs.YtmlnboibclfmcaaDoor
