/-
  The walk of HuffTells.
-/
import Derived.Test.YtdilaommhflcoaaHuffREnc
namespace Go.Proofs.Ytdilaommhflcoaa
open Go.RowKit

theorem encBits_sum (l : List UInt8) : ((encBits l).length : Int) = sizeSum l := by
  induction l with
  | nil => rfl
  | cons x l ih =>
    have e : encBits (x :: l) = symBits x ++ encBits l := by simp [encBits]
    have hx := x.toNat_lt
    have e2 : sizeSum (x :: l) = Hp.lenF (x.toNat : Int) + sizeSum l := by simp [sizeSum]
    rw [e, e2, List.length_append, lenF_nat _ (by omega)]
    unfold symBits
    rw [low_len]
    omega
theorem sizeF_len (l : List UInt8) : sizeF l = ((encF l).length : Int) := by
  obtain ⟨p, hp, h⟩ := encF_bits l
  have h1 := congrArg List.length h
  rw [List.length_append, BB_len] at h1
  simp only [ones, List.length_replicate] at h1
  have := encBits_sum l
  unfold sizeF
  omega

set_option maxHeartbeats 2000000 in
theorem walkHuffTells (a0 : Int) (w0 : (Lit.int .i64 a0).wf = true) (a1 : ByteArray) (h1 : a1.size ≤ maxLen) (w : World) :
    Calls Try.prog 4 #[.int .i64 a0, .string a1] w fun e w' => e = .returned (.bool true) ∧ Aft w w' := by
  have hb := bounds_i64 w0
  clear w0
  unfold maxLen at h1
  have hx := extract_size300 a1 60
  go_enter Try.func4, Try.ntmps4
  go_wp2_with fail
  all_goals
    refine (code_any a0 hb.1 hb.2 _).mono ?_
    rintro e w1 ⟨rfl, b1⟩
    go_wp2_with fail
    refine (rcode_any a0 hb.1 hb.2 _).mono ?_
    rintro e w2 ⟨rfl, b2⟩
    go_wp2_with fail
  · generalize a1.extract 0 60 = s at *
    refine (encode_of s _ _ (by omega) rfl).mono ?_
    rintro e w3 ⟨v3, rfl, o3, b3⟩
    go_wp2_with fail
    refine (renc_any s _ (by omega)).mono ?_
    rintro e w4 ⟨v4, rfl, o4, b4⟩
    go_wp2_with fail
    refine (same_any v3 v4 _ _ _ (o3.rb.aft b4) o4.rb).mono ?_
    rintro e w5 ⟨rfl, b5⟩
    rw [beq_self_eq_true]
    have hz := sizeF_len s.data.toList
    have HZ := Lib.hid hz
    clear hz
    go_wp2_with fail
    refine (size_any s (by omega) _).mono ?_
    rintro e w6 ⟨rfl, b6⟩
    rw [HZ.out]
    obtain ⟨ad, cap, rfl, m1, m2, _⟩ := o3.rb.first
    go_wp2_with fail
    refine (huffruns_any _).mono ?_
    rintro e w7 ⟨rfl, b7⟩
    go_wp2_with fail
    go_ret
    exact ⟨rfl, b1.trans (b2.trans (b3.trans (b4.trans (b5.trans (b6.trans b7)))))⟩
  · obtain ⟨s, rfl⟩ : ∃ s, s = a1 := ⟨_, rfl⟩
    refine (encode_of s _ _ (by omega) rfl).mono ?_
    rintro e w3 ⟨v3, rfl, o3, b3⟩
    go_wp2_with fail
    refine (renc_any s _ (by omega)).mono ?_
    rintro e w4 ⟨v4, rfl, o4, b4⟩
    go_wp2_with fail
    refine (same_any v3 v4 _ _ _ (o3.rb.aft b4) o4.rb).mono ?_
    rintro e w5 ⟨rfl, b5⟩
    rw [beq_self_eq_true]
    have hz := sizeF_len s.data.toList
    have HZ := Lib.hid hz
    clear hz
    go_wp2_with fail
    refine (size_any s (by omega) _).mono ?_
    rintro e w6 ⟨rfl, b6⟩
    rw [HZ.out]
    obtain ⟨ad, cap, rfl, m1, m2, _⟩ := o3.rb.first
    go_wp2_with fail
    refine (huffruns_any _).mono ?_
    rintro e w7 ⟨rfl, b7⟩
    go_wp2_with fail
    go_ret
    exact ⟨rfl, b1.trans (b2.trans (b3.trans (b4.trans (b5.trans (b6.trans b7)))))⟩

end Go.Proofs.Ytdilaommhflcoaa
