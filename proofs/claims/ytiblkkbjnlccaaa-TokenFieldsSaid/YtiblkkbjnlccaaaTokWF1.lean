/-
  A slice of fields that came in, as a list.
-/
import Derived.Test.YtiblkkbjnlccaaaSameF
import Derived.Test.YtiblkkbjnlccaaaRPairs
import Derived.Test.YtiblkkbjnlccaaaTokWPairs
import Derived.Deep.SlicePairs
namespace Go.Proofs.Ytiblkkbjnlccaaa
open Go.ChangeShapes Go.WideShapes Go.ChangeAt Go.RowKit

theorem cellsFF : Try.prog.cellsOf 40 = 2 := by kernel_rfl
theorem open_fieldsRb {H : Type} {enc : TypeId × Value → H} {W : World} {base : Nat} {v : Value} {d : DataW H} {p : List MemPlace} (hval : Value.okWide Try.prog W .any base 38 v) (h : DataW.Trod enc Try.prog W 0 (fun _ => true) true 38 v d p) :
    ∃ l : List FieldL, RbF W v l := by
  obtain ⟨a1, len, cap, rfl⟩ := okWide_slice Try.underlying38 hval
  obtain ⟨fuel, hf⟩ := h
  rcases Go.Deep.open_slice_pairs Try.underlying38 Try.underlying40 cellsFF rfl rfl cellsS cellsS hf with ⟨hcs, hx⟩ | ⟨a, len', cap', m, n, V0, V1, D0, D1, P0, P1, hcs, _, hl, hm, hmm, hx, hcell⟩
  · simp [Value.cells] at hcs
    obtain ⟨rfl, rfl, rfl⟩ := hcs
    exact ⟨[], Or.inl ⟨rfl, rfl⟩⟩
  · simp [Value.cells] at hcs
    obtain ⟨rfl, rfl, rfl⟩ := hcs
    obtain ⟨hs, hlt⟩ := has_lt Try.underlying38 hval
    obtain ⟨ab, ao, spot⟩ := a
    subst hs
    have hlm : len ≤ m := by rw [hmm]; split <;> omega
    have hget : ∀ i, i < len → ∃ f : FieldL, W.cell? ⟨ab, ao + i * 2, none⟩ = some (strV f.1) ∧ W.cell? ⟨ab, ao + i * 2 + 1, none⟩ = some (strV f.2) := by
      intro i hi
      obtain ⟨e0, e1, t0, t1⟩ := hcell i (by omega)
      obtain ⟨s0, hs0, _, _⟩ := DataW.trod_string Try.underlying9 t0
      obtain ⟨s1, hs1, _, _⟩ := DataW.trod_string Try.underlying9 t1
      rw [Addr.add_lit] at e0 e1
      injection hs0 with hs0 _
      injection hs1 with hs1 _
      refine ⟨(s0.data.toList, s1.data.toList), ?_, ?_⟩
      · rw [e0, hs0]; rfl
      · rw [show ao + i * 2 + 1 = ao + (i * 2 + 1) by omega, e1, hs1]; rfl
    have key : ∀ k, k ≤ len → ∃ l : List FieldL, l.length = k ∧ ∀ i (h : i < l.length), W.cell? ⟨ab, ao + i * 2, none⟩ = some (strV l[i].1) ∧ W.cell? ⟨ab, ao + i * 2 + 1, none⟩ = some (strV l[i].2) := by
      intro k
      induction k with
      | zero => exact fun _ => ⟨[], rfl, fun i hi => by simp at hi⟩
      | succ k ih =>
        intro hk
        obtain ⟨l, hl1, hl2⟩ := ih (by omega)
        obtain ⟨f, f1, f2⟩ := hget k (by omega)
        refine ⟨l ++ [f], by simp [hl1], fun i hi => ?_⟩
        by_cases hik : i < l.length
        · rw [List.getElem_append_left hik]; exact hl2 i hik
        · have : i = k := by simp at hi; omega
          subst this
          rw [List.getElem_append_right (by omega)]
          simpa [hl1] using ⟨f1, f2⟩
    obtain ⟨l, hl1, hl2⟩ := key len (Nat.le_refl _)
    exact ⟨l, Or.inr ⟨ab, ao, cap, by rw [hl1], by omega, hm, hlt, hl2⟩⟩

theorem join_ok (name : List UInt8) (l : List FieldL) (hlen : l.length ≤ 20) (hv : ∀ f ∈ l, f.2.length ≤ 300) : (Lib.join (valsF name l) [44, 32]).length ≤ 100000000 := by
  obtain ⟨h1, h2⟩ := vals_len name l hv
  have := join_len _ h1
  omega
theorem all_of (v : Value) (l : List FieldL) (name J : ByteArray) (N : Nat) (w : World) (hr : RbF w v l) (hlen : l.length ≤ 20) (hv : ∀ f ∈ l, f.2.length ≤ 300) (hJ : (⟨(Lib.join (valsF name.data.toList l) [44, 32]).toArray⟩ : ByteArray) = J) (hN : (valsF name.data.toList l).length = N) :
    Calls Try.prog 19 #[v, .string name] w fun e w' => e = .returned (.tuple #[.string J, .int .i64 (N : Int)]) ∧ Aft w w' := by
  subst hJ hN
  exact all_any v l name w hr (by omega) (join_ok _ l hlen hv)
theorem rall_of (v : Value) (l : List FieldL) (name J : ByteArray) (N : Nat) (w : World) (hr : RbF w v l) (hlen : l.length ≤ 20) (hv : ∀ f ∈ l, f.2.length ≤ 300) (hJ : (⟨(Lib.join (valsF name.data.toList l) [44, 32]).toArray⟩ : ByteArray) = J) (hN : (valsF name.data.toList l).length = N) :
    Calls Try.prog 20 #[v, .string name] w fun e w' => e = .returned (.tuple #[.string J, .int .i64 (N : Int)]) ∧ Aft w w' := by
  subst hJ hN
  exact rall_any v l name w hr (by omega) hv
theorem fpairs_of (v : Value) (l : List FieldL) (name : ByteArray) (ps : List PairL) (w : World) (hr : RbF w v l) (hlen : l.length ≤ 20) (hv : ∀ f ∈ l, f.2.length ≤ 300) (hp : pairsF name.data.toList l = ps) :
    Calls Try.prog 21 #[v, .string name] w fun e w' => ∃ v', e = .returned v' ∧ OwnP w' w.heap.size v' ps ∧ Aft w w' := by
  subst hp
  exact pairs_any v l name w hr (by omega) (join_ok _ l hlen hv)
theorem rpairs_of (v : Value) (l : List FieldL) (name : ByteArray) (ps : List PairL) (w : World) (hr : RbF w v l) (hlen : l.length ≤ 20) (hv : ∀ f ∈ l, f.2.length ≤ 300) (hp : pairsF name.data.toList l = ps) :
    Calls Try.prog 22 #[v, .string name] w fun e w' => ∃ v', e = .returned v' ∧ OwnQ w' w.heap.size v' ps ∧ Aft w w' := by
  subst hp
  exact rpairs_any v l name w hr (by omega) hv
theorem full_rb {w : World} {g : Nat} {l : List FieldL} (h : FB w g (l ++ List.replicate 80 markF)) (hlen : l.length ≤ 20) : RbF w (.slice (some ⟨g, 0, none⟩) (l.length + 80) (l.length + 80)) (l ++ List.replicate 80 markF) ∧ RbF w (.slice (some ⟨g, 0, none⟩) l.length (l.length + 80)) l := by
  have hll : (l ++ List.replicate 80 markF).length = l.length + 80 := by simp
  have hm : (l ++ List.replicate 80 markF).length ≤ maxLen := by rw [hll]; unfold maxLen; omega
  have h1 := h.rb hm (l.length + 80) (by omega)
  have h2 := h.rb hm l.length (by omega)
  rw [hll] at h1 h2
  rw [List.take_of_length_le (by omega)] at h1
  rw [List.take_left'] at h2
  · exact ⟨h1, h2⟩
  · rfl
theorem cut_fields {w : World} {a : Option Addr} {cap : Nat} {l : List FieldL} (h : RbF w (.slice a l.length cap) l) (n : Nat) (hn : n < l.length) : ∃ l' : List FieldL, l'.length = n ∧ RbF w (.slice a n cap) l' := by
  refine ⟨l.take n, by rw [List.length_take]; omega, ?_⟩
  rcases h with ⟨_, rfl⟩ | ⟨b, off, cap', e, h1, h2, h3, h4⟩
  · simp at hn
  · injection e with e1 _ e2
    subst e1 e2
    refine Or.inr ⟨b, off, cap, by rw [List.length_take]; congr 1; omega, by rw [List.length_take]; omega, h2, h3, fun i hi => ?_⟩
    rw [List.length_take] at hi
    rw [List.getElem_take]
    exact h4 i (by omega)

end Go.Proofs.Ytiblkkbjnlccaaa
