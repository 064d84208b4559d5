/-
  The walks of refused and of HuffRuns. The walk of HuffBack. The walk of HuffJoins.
-/
import Derived.Test.YtmlnboibclfmcaaDoorHuffSz
import Derived.Test.YtmlnboibclfmcaaDoorSame
import Derived.Test.YtmlnboibclfmcaaDoorArg
import Derived.Test.YtmlnboibclfmcaaDoorWithin
namespace Go.Proofs.YtmlnboibclfmcaaDoor
open Go.RowKit

theorem Rb.new (w : World) (l : List UInt8) (hl : l.length ≤ 1000 := by decide) : Rb (w.alloc (.cells (bv l).toArray 5)) (.slice (some ⟨w.heap.size, 0, none⟩) l.length l.length) l := by
  refine Or.inr ⟨w.heap.size, 0, l.length, rfl, Nat.le_refl _, by unfold maxLen; omega, by simp, fun i hi => ?_⟩
  simp only [World.cell?, heap_new]
  simp [bv, hi]
theorem decode_of (v : Value) (l o : List UInt8) (c : Int) (w : World) (hr : Rb w v l) (hlen : l.length ≤ 100000000000) (hd : decF l = (o, c)) :
    Calls Tryd.prog 107 #[v] w fun e w' => e = .returned (.tuple #[.string ⟨o.toArray⟩, .int .i64 c]) ∧ Aft w w' := by
  have := decode_any v l w hr hlen
  rw [hd] at this
  exact this
theorem encode_of (s : ByteArray) (l : List UInt8) (w : World) (hs : s.size ≤ 100000000000) (he : encF s.data.toList = l) :
    Calls Tryd.prog 92 #[.string s] w fun e w' => ∃ v, e = .returned v ∧ Own w' w.heap.size v l ∧ Aft w w' := by
  have := encode_any s w hs
  rw [he] at this
  exact this

end Go.Proofs.YtmlnboibclfmcaaDoor
namespace Go.Proofs.YtmlnboibclfmcaaDoor
open Go.RowKit
set_option linter.unusedVariables false

theorem mk_toList (s : ByteArray) : (⟨s.data.toList.toArray⟩ : ByteArray) = s := by cases s; rfl
theorem decode_back (v : Value) (s : ByteArray) (w : World) (hs : s.size ≤ 100000) (hr : Rb w v (encF s.data.toList)) :
    Calls Tryd.prog 107 #[v] w fun e w' => e = .returned (.tuple #[.string s, .int .i64 0]) ∧ Aft w w' := by
  have hb : (encF s.data.toList).length ≤ 100000000000 := by
    obtain ⟨p, hp, h⟩ := encF_bits s.data.toList
    have := congrArg List.length h
    rw [BB_len, List.length_append] at this
    have h2 : ∀ l : List UInt8, (encBits l).length ≤ 30 * l.length := by
      intro l
      induction l with
      | nil => simp [encBits]
      | cons x l ih =>
        have e : encBits (x :: l) = symBits x ++ encBits l := by simp [encBits]
        have hx := Hp.lensL_bd x.toNat (by have := x.toNat_lt; omega)
        rw [e, List.length_append, List.length_cons]
        unfold symBits
        rw [low_len]
        omega
    have := h2 s.data.toList
    rw [size_len] at this
    simp only [ones, List.length_replicate] at *
    omega
  have := decode_of v (encF s.data.toList) s.data.toList 0 w hr hb (dec_enc _)
  rw [mk_toList] at this
  exact this
theorem decF_code (l : List UInt8) : (decF l).2 = 0 ∨ (decF l).2 = 4 := by
  rw [decF_run]
  split
  · exact Or.inr rfl
  · split
    · exact Or.inr rfl
    · exact Or.inl rfl
theorem encode_back (l : List UInt8) (u : ByteArray) (w : World) (hs : u.size ≤ 100000000000) (hd : decF l = (u.data.toList, 0)) :
    Calls Tryd.prog 92 #[.string u] w fun e w' => ∃ v, e = .returned v ∧ Own w' w.heap.size v l ∧ Aft w w' :=
  encode_of u l w hs (enc_dec hd)
theorem run_len (bs : List Int) (o : List UInt8) (c : Int) (n : Nat) : ∀ o' c' n', runL bs (some (o, c, n)) = some (o', c', n') → o'.length ≤ o.length + bs.length := by
  induction bs generalizing o c n with
  | nil => intro o' c' n' h; simp only [runL, List.foldl_nil, Option.some.injEq, Prod.mk.injEq] at h; obtain ⟨rfl, _⟩ := h; simp
  | cons x bs ih =>
    intro o' c' n' h
    have h' : runL bs (dstep (o, c, n) x) = some (o', c', n') := h
    unfold dstep at h'
    simp only at h'
    by_cases h1 : symF (2 * c + x) (n + 1) = 256
    · rw [if_pos h1, runL_none] at h'; cases h'
    · rw [if_neg h1] at h'
      by_cases h2 : 0 ≤ symF (2 * c + x) (n + 1)
      · rw [if_pos h2] at h'
        have := ih _ _ _ _ _ _ h'
        simp at this ⊢
        omega
      · rw [if_neg h2] at h'
        have := ih _ _ _ _ _ _ h'
        simp at this ⊢
        omega
theorem decF_len (l : List UInt8) : (decF l).1.length ≤ 8 * l.length := by
  rw [decF_run]
  split
  · simp
  · rename_i o c n h
    split
    · simp
    · have := run_len _ _ _ _ _ _ _ h
      rw [BB_len] at this
      simpa using this
/-- What is read of bytes: a text that has them, or an error. -/
theorem decode_two (v : Value) (l : List UInt8) (w : World) (hr : Rb w v l) (hl : l.length ≤ 100000) :
    Calls Tryd.prog 107 #[v] w fun e w' => ∃ (u : ByteArray) (f : Int), e = .returned (.tuple #[.string u, .int .i64 f]) ∧ ((f != 0) = true ∨ ((f != 0) = false ∧ Hid (decF l = (u.data.toList, 0)) ∧ u.size ≤ 800000)) ∧ Aft w w' := by
  refine (decode_any v l w hr (by omega)).mono ?_
  rintro e w' ⟨rfl, ha⟩
  refine ⟨_, _, rfl, ?_, ha⟩
  rcases decF_code l with h | h
  · refine Or.inr ⟨by rw [h]; rfl, Lib.hid ?_, ?_⟩
    · rw [← h]
    · have := decF_len l
      show (decF l).1.toArray.size ≤ 800000
      simp only [List.size_toArray]
      omega
  · exact Or.inl (by rw [h]; rfl)
theorem toList_nil : ([] : List UInt8).toArray = #[] := rfl
/-- The first k bytes of a readable slice. -/
theorem Rb.cut {w : World} {b off len cap : Nat} {l : List UInt8} (h : Rb w (.slice (some ⟨b, off, none⟩) len cap) l) {k : Nat} (hk : k ≤ l.length) : Rb w (.slice (some ⟨b, off, none⟩) k cap) (l.take k) := by
  rcases h with ⟨⟨a0, h⟩, hl⟩ | ⟨b', off', cap', h, h1, h2, h3, h4⟩
  · injection h with e1 e2 e3
    subst e1 e3 hl
    have : k = 0 := by simpa using hk
    subst this
    exact Or.inl ⟨⟨_, rfl⟩, rfl⟩
  · injection h with e1 e2 e3
    injection e1 with e1
    injection e1 with e4 e5
    subst e3 e4 e5
    refine Or.inr ⟨b, off, cap, ?_, by rw [List.length_take]; omega, h2, h3, fun i hi => ?_⟩
    · rw [List.length_take, Nat.min_eq_left hk]
    · rw [List.length_take] at hi
      rw [List.getElem_take]
      exact h4 i (by omega)
theorem extract_size300 (a : ByteArray) (k : Nat) : (a.extract 0 k).size ≤ k := by
  rw [ByteArray.size_extract]
  omega

/-- A readable slice, cut at k, as a value. -/
theorem Rb.first {w : World} {v : Value} {l : List UInt8} (h : Rb w v l) : ∃ (a : Option Addr) (cap : Nat), v = .slice a l.length cap ∧ (l.length ≤ cap) ∧ cap ≤ maxLen ∧ ∀ k, k ≤ l.length → Rb w (.slice a k cap) (l.take k) := by
  rcases h with ⟨⟨a0, rfl⟩, rfl⟩ | ⟨b, off, cap, rfl, h1, h2, h3, h4⟩
  · refine ⟨a0, 0, rfl, Nat.zero_le _, Nat.zero_le _, fun k hk => ?_⟩
    have : k = 0 := by simpa using hk
    subst this
    exact Or.inl ⟨⟨a0, rfl⟩, rfl⟩
  · exact ⟨_, _, rfl, h1, h2, fun k hk => Rb.cut (Or.inr ⟨b, off, cap, rfl, h1, h2, h3, h4⟩) hk⟩

end Go.Proofs.YtmlnboibclfmcaaDoor
namespace Go.Proofs.YtmlnboibclfmcaaDoor
open Go.RowKit
set_option linter.unusedVariables false

theorem encBits_len (l : List UInt8) : (encBits l).length ≤ 30 * l.length := by
  induction l with
  | nil => simp [encBits]
  | cons x l ih =>
    have e : encBits (x :: l) = symBits x ++ encBits l := by simp [encBits]
    have hx := Hp.lensL_bd x.toNat (by have := x.toNat_lt; omega)
    rw [e, List.length_append, List.length_cons]
    unfold symBits
    rw [low_len]
    omega
theorem encF_len (l : List UInt8) : (encF l).length ≤ 4 * l.length + 1 := by
  obtain ⟨p, hp, h⟩ := encF_bits l
  have := congrArg List.length h
  have h2 := encBits_len l
  rw [BB_len, List.length_append] at this
  simp only [ones, List.length_replicate] at this
  omega
theorem Own.empty (w : World) (base : Nat) (hb : base ≤ w.heap.size) : Own (w.alloc (.cells #[] 5)) base (.slice (some ⟨w.heap.size, 0, none⟩) 0 0) [] := by
  refine ⟨rfl, Or.inr ⟨w.heap.size, 0, #[], rfl, hb, heap_alloc_new w _, Nat.le_refl _, Nat.zero_le _, ?_⟩⟩
  simp [bv]

end Go.Proofs.YtmlnboibclfmcaaDoor
