/-
  The walk of HuffJoins.
-/
import Derived.Test.YtdilaommhflcoaaHuffWBack
import Derived.Test.YtdilaommhflcoaaWithin
namespace Go.Proofs.Ytdilaommhflcoaa
open Go.RowKit

theorem encBits_len (l : List UInt8) : (encBits l).length ≤ 30 * l.length := by
  induction l with
  | nil => simp [encBits]
  | cons x l ih =>
    have e : encBits (x :: l) = symBits x ++ encBits l := by simp [encBits]
    have hx := Hp.lensL_bd x.toNat (by have := x.toNat_lt; omega)
    rw [e, List.length_append, List.length_cons]
    unfold symBits
    rw [low_len]
    omega
theorem encF_len (l : List UInt8) : (encF l).length ≤ 4 * l.length + 1 := by
  obtain ⟨p, hp, h⟩ := encF_bits l
  have := congrArg List.length h
  have h2 := encBits_len l
  rw [BB_len, List.length_append] at this
  simp only [ones, List.length_replicate] at this
  omega
theorem Own.empty (w : World) (base : Nat) (hb : base ≤ w.heap.size) : Own (w.alloc (.cells #[] 5)) base (.slice (some ⟨w.heap.size, 0, none⟩) 0 0) [] := by
  refine ⟨rfl, Or.inr ⟨w.heap.size, 0, #[], rfl, hb, heap_alloc_new w _, Nat.le_refl _, Nat.zero_le _, ?_⟩⟩
  simp [bv]

set_option maxHeartbeats 2000000 in
theorem walkHuffJoins (a0 : ByteArray) (h0 : a0.size ≤ maxLen) (a1 : Int) (w1 : (Lit.int .i64 a1).wf = true) (w : World) :
    Calls Try.prog 8 #[.string a0, .int .i64 a1] w fun e w' => e = .returned (.bool true) ∧ Aft w w' := by
  have hb := bounds_i64 w1
  clear w1
  unfold maxLen at h0
  have hx := extract_size300 a0 100
  go_enter Try.func8, Try.ntmps8
  go_wp2_with fail
  · generalize a0.extract 0 100 = s at *
    refine (encode_of s _ w (by omega) rfl).mono ?_
    rintro e w1 ⟨v1, rfl, o1, b1⟩
    obtain ⟨ad, cap, rfl, m1, m2, hcut⟩ := o1.rb.first
    have hel := encF_len s.data.toList
    rw [size_len] at hel
    have hel2 : ([] : List UInt8).length + (encF s.data.toList).length ≤ 140737488355328 := by simp; omega
    have hel3 : (encF s.data.toList).length + 1 ≤ 140737488355328 := by omega
    have HC := Lib.hid hcut
    have O1 := Lib.hid o1
    clear hcut o1
    unfold maxLen at m2
    go_wp2_with fail
    refine (within_any _ 0 _ hb.1 hb.2 (by decide) (by omega) (by omega) _).mono ?_
    rintro e w2 ⟨r, rfl, r0, r1, rfl⟩
    obtain ⟨r, rfl⟩ := Int.eq_ofNat_of_zero_le r0
    go_wp2_with fail
    refine (decode_two _ _ _ (HC.out r (by omega)) (by rw [List.length_take]; omega)).mono ?_
    rintro e w3 ⟨u, f, rfl, hf | ⟨hf, HD, hu⟩, b3⟩
    · have hf2 : (f == 0) = false := by simpa using hf
      go_wp2_with (first | (at_builtin; refine wpList_pushes rfl (.tmp 45) (.tmp 46) rfl w3.heap.size _ _ [] (encF s.data.toList) rfl (Own.empty w3 _ (Nat.le_refl _)) rfl ((O1.out.rb.aft b3).aft ((Aft.refl _).alloc _)) hel2 (by simp) ?_; intro v4 w4 o4 g4) | (at_builtin; refine wpList_push rfl (.tmp 47) (.tmp 48) rfl w3.heap.size _ (encF s.data.toList) rfl (o4.aft ((Aft.refl _).alloc _)) ⟨w4.heap.size, 0, none⟩ 1 255 rfl (cell_new1 _ _ _) (by decide) (by decide) hel3 (le_alloc (by have := g4.size; simp at this; omega) _) ?_; intro v5 w5 o5 g5))
      refine (decode_of v5 _ [] 4 _ o5.rb (by simp; omega) (dec_more _)).mono ?_
      rintro e w6 ⟨rfl, b6⟩
      go_wp2_with fail
      refine (huffruns_any _).mono ?_
      rintro e w7 ⟨rfl, b7⟩
      go_wp2_with fail
      go_ret
      have b4 : Below w3.heap.size w3 w4 := push_below ((Below.refl _ _).alloc (Nat.le_refl _) _) (Own.empty w3 w3.heap.size (Nat.le_refl _)) g4 (Nat.le_refl _) (le_alloc (Nat.le_refl _) _)
      have b5 : Below w3.heap.size w3 w5 := push_below (b4.alloc b4.size _) (o4.aft ((Aft.refl _).alloc _)) g5 (Nat.le_refl _) (le_alloc b4.size _)
      exact ⟨rfl, b1.trans (b3.trans (Aft.trans b5 (b6.trans b7)))⟩
    · have hf2 : (f == 0) = true := by simpa using hf
      have hp := dec_cut HD.out
      have hpl : u.size ≤ s.size := by
        have := hp.length_le
        rwa [size_len, size_len] at this
      have hpe : (s.extract 0 u.size).toList = u.toList := by
        rw [Lib.toList_data, Lib.toList_data, extract_front, ← size_len]
        exact (List.prefix_iff_eq_take.1 hp).symm
      clear hp
      go_wp2_with (first | (at_builtin; refine wpList_pushes rfl (.tmp 45) (.tmp 46) rfl w3.heap.size _ _ [] (encF s.data.toList) rfl (Own.empty w3 _ (Nat.le_refl _)) rfl ((O1.out.rb.aft b3).aft ((Aft.refl _).alloc _)) hel2 (by simp) ?_; intro v4 w4 o4 g4) | (at_builtin; refine wpList_push rfl (.tmp 47) (.tmp 48) rfl w3.heap.size _ (encF s.data.toList) rfl (o4.aft ((Aft.refl _).alloc _)) ⟨w4.heap.size, 0, none⟩ 1 255 rfl (cell_new1 _ _ _) (by decide) (by decide) hel3 (le_alloc (by have := g4.size; simp at this; omega) _) ?_; intro v5 w5 o5 g5))
      refine (decode_of v5 _ [] 4 _ o5.rb (by simp; omega) (dec_more _)).mono ?_
      rintro e w6 ⟨rfl, b6⟩
      go_wp2_with fail
      refine (huffruns_any _).mono ?_
      rintro e w7 ⟨rfl, b7⟩
      go_wp2_with fail
      go_ret
      have b4 : Below w3.heap.size w3 w4 := push_below ((Below.refl _ _).alloc (Nat.le_refl _) _) (Own.empty w3 w3.heap.size (Nat.le_refl _)) g4 (Nat.le_refl _) (le_alloc (Nat.le_refl _) _)
      have b5 : Below w3.heap.size w3 w5 := push_below (b4.alloc b4.size _) (o4.aft ((Aft.refl _).alloc _)) g5 (Nat.le_refl _) (le_alloc b4.size _)
      exact ⟨rfl, b1.trans (b3.trans (Aft.trans b5 (b6.trans b7)))⟩
  · obtain ⟨s, rfl⟩ : ∃ s, s = a0 := ⟨_, rfl⟩
    refine (encode_of s _ w (by omega) rfl).mono ?_
    rintro e w1 ⟨v1, rfl, o1, b1⟩
    obtain ⟨ad, cap, rfl, m1, m2, hcut⟩ := o1.rb.first
    have hel := encF_len s.data.toList
    rw [size_len] at hel
    have hel2 : ([] : List UInt8).length + (encF s.data.toList).length ≤ 140737488355328 := by simp; omega
    have hel3 : (encF s.data.toList).length + 1 ≤ 140737488355328 := by omega
    have HC := Lib.hid hcut
    have O1 := Lib.hid o1
    clear hcut o1
    unfold maxLen at m2
    go_wp2_with fail
    refine (within_any _ 0 _ hb.1 hb.2 (by decide) (by omega) (by omega) _).mono ?_
    rintro e w2 ⟨r, rfl, r0, r1, rfl⟩
    obtain ⟨r, rfl⟩ := Int.eq_ofNat_of_zero_le r0
    go_wp2_with fail
    refine (decode_two _ _ _ (HC.out r (by omega)) (by rw [List.length_take]; omega)).mono ?_
    rintro e w3 ⟨u, f, rfl, hf | ⟨hf, HD, hu⟩, b3⟩
    · have hf2 : (f == 0) = false := by simpa using hf
      go_wp2_with (first | (at_builtin; refine wpList_pushes rfl (.tmp 45) (.tmp 46) rfl w3.heap.size _ _ [] (encF s.data.toList) rfl (Own.empty w3 _ (Nat.le_refl _)) rfl ((O1.out.rb.aft b3).aft ((Aft.refl _).alloc _)) hel2 (by simp) ?_; intro v4 w4 o4 g4) | (at_builtin; refine wpList_push rfl (.tmp 47) (.tmp 48) rfl w3.heap.size _ (encF s.data.toList) rfl (o4.aft ((Aft.refl _).alloc _)) ⟨w4.heap.size, 0, none⟩ 1 255 rfl (cell_new1 _ _ _) (by decide) (by decide) hel3 (le_alloc (by have := g4.size; simp at this; omega) _) ?_; intro v5 w5 o5 g5))
      refine (decode_of v5 _ [] 4 _ o5.rb (by simp; omega) (dec_more _)).mono ?_
      rintro e w6 ⟨rfl, b6⟩
      go_wp2_with fail
      refine (huffruns_any _).mono ?_
      rintro e w7 ⟨rfl, b7⟩
      go_wp2_with fail
      go_ret
      have b4 : Below w3.heap.size w3 w4 := push_below ((Below.refl _ _).alloc (Nat.le_refl _) _) (Own.empty w3 w3.heap.size (Nat.le_refl _)) g4 (Nat.le_refl _) (le_alloc (Nat.le_refl _) _)
      have b5 : Below w3.heap.size w3 w5 := push_below (b4.alloc b4.size _) (o4.aft ((Aft.refl _).alloc _)) g5 (Nat.le_refl _) (le_alloc b4.size _)
      exact ⟨rfl, b1.trans (b3.trans (Aft.trans b5 (b6.trans b7)))⟩
    · have hf2 : (f == 0) = true := by simpa using hf
      have hp := dec_cut HD.out
      have hpl : u.size ≤ s.size := by
        have := hp.length_le
        rwa [size_len, size_len] at this
      have hpe : (s.extract 0 u.size).toList = u.toList := by
        rw [Lib.toList_data, Lib.toList_data, extract_front, ← size_len]
        exact (List.prefix_iff_eq_take.1 hp).symm
      clear hp
      go_wp2_with (first | (at_builtin; refine wpList_pushes rfl (.tmp 45) (.tmp 46) rfl w3.heap.size _ _ [] (encF s.data.toList) rfl (Own.empty w3 _ (Nat.le_refl _)) rfl ((O1.out.rb.aft b3).aft ((Aft.refl _).alloc _)) hel2 (by simp) ?_; intro v4 w4 o4 g4) | (at_builtin; refine wpList_push rfl (.tmp 47) (.tmp 48) rfl w3.heap.size _ (encF s.data.toList) rfl (o4.aft ((Aft.refl _).alloc _)) ⟨w4.heap.size, 0, none⟩ 1 255 rfl (cell_new1 _ _ _) (by decide) (by decide) hel3 (le_alloc (by have := g4.size; simp at this; omega) _) ?_; intro v5 w5 o5 g5))
      refine (decode_of v5 _ [] 4 _ o5.rb (by simp; omega) (dec_more _)).mono ?_
      rintro e w6 ⟨rfl, b6⟩
      go_wp2_with fail
      refine (huffruns_any _).mono ?_
      rintro e w7 ⟨rfl, b7⟩
      go_wp2_with fail
      go_ret
      have b4 : Below w3.heap.size w3 w4 := push_below ((Below.refl _ _).alloc (Nat.le_refl _) _) (Own.empty w3 w3.heap.size (Nat.le_refl _)) g4 (Nat.le_refl _) (le_alloc (Nat.le_refl _) _)
      have b5 : Below w3.heap.size w3 w5 := push_below (b4.alloc b4.size _) (o4.aft ((Aft.refl _).alloc _)) g5 (Nat.le_refl _) (le_alloc b4.size _)
      exact ⟨rfl, b1.trans (b3.trans (Aft.trans b5 (b6.trans b7)))⟩

end Go.Proofs.Ytdilaommhflcoaa
