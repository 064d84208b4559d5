/-
  The walk of HuffSizes.
-/
import Derived.Test.YtdilaommhflcoaaHuffRuns
namespace Go.Proofs.Ytdilaommhflcoaa
open Go.RowKit

theorem sizeSum_append (a b : List UInt8) : sizeSum (a ++ b) = sizeSum a + sizeSum b := by
  unfold sizeSum
  simp
theorem sizeF_zero (l : List UInt8) : sizeF l = 0 ↔ l = [] := by
  have := sizeSum_bd l
  unfold sizeF
  constructor
  · intro h
    cases l with
    | nil => rfl
    | cons c l => simp only [List.length_cons] at this; omega
  · intro h; subst h; decide

set_option maxHeartbeats 1000000 in
theorem walkHuffSizes (a0 : ByteArray) (h0 : a0.size ≤ maxLen) (a1 : ByteArray) (h1 : a1.size ≤ maxLen) (w : World) :
    Calls Try.prog 10 #[.string a0, .string a1] w fun e w' => e = .returned (.bool true) ∧ Aft w w' := by
  unfold maxLen at h0 h1
  by_cases hbig : 300 < a0.size ∨ 300 < a1.size
  · have HB := Lib.hid hbig
    clear hbig
    go_enter Try.func10, Try.ntmps10
    go_wp2_with (go_at_call 3; refine (huffruns_any _).mono ?_; rintro e w7 ⟨rfl, b7⟩)
    all_goals
      first
        | (go_ret
           exact ⟨rfl, b7⟩)
        | (exfalso
           have := HB.out
           omega)
  · have s0 : a0.size ≤ 300 := by omega
    have s1 : a1.size ≤ 300 := by omega
    clear hbig
    have hz := size_len a0
    have hd : (a0 ++ a1).data.toList = a0.data.toList ++ a1.data.toList := by rw [ByteArray.data_append, Array.toList_append]
    have p0 := sizeSum_bd a0.data.toList
    have p1 := sizeSum_bd a1.data.toList
    have e2 : sizeF (a0 ++ a1).data.toList = (sizeSum a0.data.toList + sizeSum a1.data.toList + 7) / 8 := by
      unfold sizeF
      rw [hd, sizeSum_append]
    have e0 : sizeF a0.data.toList = (sizeSum a0.data.toList + 7) / 8 := rfl
    have e1 : sizeF a1.data.toList = (sizeSum a1.data.toList + 7) / 8 := rfl
    have hzz := sizeF_zero a0.data.toList
    rw [size_len] at p0 p1
    have q1 : sizeF (a0 ++ a1).data.toList ≤ sizeF a0.data.toList + sizeF a1.data.toList := by omega
    have q2 : sizeF a0.data.toList + sizeF a1.data.toList - 1 ≤ sizeF (a0 ++ a1).data.toList := by omega
    have q3 : 0 ≤ sizeF a0.data.toList := by omega
    have q4 : 0 ≤ sizeF a1.data.toList := by omega
    have q5 : sizeF a0.data.toList ≤ 10000 := by omega
    have q6 : sizeF a1.data.toList ≤ 10000 := by omega
    have q7 : (sizeF a0.data.toList == 0) = a0.toList.isEmpty := by
      rw [Bool.eq_iff_iff, beq_iff_eq, hzz, List.isEmpty_iff, Lib.toList_data]
    have hsz2 : (a0 ++ a1).size ≤ 600 := by rw [ByteArray.size_append]; omega
    clear e0 e1 e2 p0 p1 hzz hd hz
    have c0 := size_any a0 (by omega)
    have c1 := size_any a1 (by omega)
    have c2 := size_any (a0 ++ a1) (by omega)
    generalize sizeF (a0 ++ a1).data.toList = C at *
    generalize sizeF a0.data.toList = A at *
    generalize sizeF a1.data.toList = B at *
    have C0 := Lib.hid c0
    have C1 := Lib.hid c1
    have C2 := Lib.hid c2
    clear c0 c1 c2
    have Q7 := Lib.hid q7
    cases hq : a0.toList.isEmpty
    all_goals
      rw [hq] at q7
      clear Q7
      go_enter Try.func10, Try.ntmps10
      go_wp2_with fail
      refine (C0.out _).mono ?_
      rintro e w1 ⟨rfl, b1⟩
      go_wp2_with fail
      refine (C1.out _).mono ?_
      rintro e w2 ⟨rfl, b2⟩
      go_wp2_with fail
      refine (C2.out _).mono ?_
      rintro e w3 ⟨rfl, b3⟩
      go_wp2_with (go_at_call 3; refine (huffruns_any _).mono ?_; rintro e w7 ⟨rfl, b7⟩)
      go_ret
      exact ⟨rfl, b1.trans (b2.trans (b3.trans b7))⟩

end Go.Proofs.Ytdilaommhflcoaa
