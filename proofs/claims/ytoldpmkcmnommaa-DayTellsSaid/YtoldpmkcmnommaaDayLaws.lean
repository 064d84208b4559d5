/-
  The walks of the statements of chapter 17 that speak of the program alone.
-/
import Derived.Test.YtoldpmkcmnommaaDayLaw
import Derived.OpenShut
namespace Go.Proofs.Ytoldpmkcmnommaa
open Go.RowKit

theorem within_any (n lo hi : Int) (_ : -9223372036854775808 ≤ n) (_ : n ≤ 9223372036854775807) (h0 : 0 ≤ lo) (h1 : lo ≤ hi) (h2 : hi ≤ 1000000000000) (w : World) :
    Calls Try.prog 13 #[.int .i64 n, .int .i64 lo, .int .i64 hi] w fun e w' => ∃ r : Int, e = .returned (.int .i64 r) ∧ lo ≤ r ∧ r ≤ hi ∧ w = w' := by
  have hm0 : (n.tmod (hi - lo + 1)) < hi - lo + 1 := Int.tmod_lt_of_pos _ (by omega)
  have hm1 : -(hi - lo + 1) < n.tmod (hi - lo + 1) := by
    have h := Int.tmod_lt_of_pos (-n) (show 0 < hi - lo + 1 by omega)
    rw [Int.neg_tmod] at h
    omega
  have hne : ((hi - lo + 1) == 0) = false := by simp; omega
  have hne2 : hi - lo + 1 ≠ 0 := by omega
  go_enter Try.func13, Try.ntmps13
  go_wp2
  all_goals
    go_ret
    exact ⟨_, rfl, by omega, by omega, rfl⟩

theorem read_of (s : ByteArray) (a : Int) (b : Bool) (h : Dp.readF s.data.toList = (a, b)) (w : World) (hs : s.size ≤ 9223372036854775807) :
    Calls Try.prog 9 #[.string s] w fun e w' => e = .returned (.tuple #[.int .i64 a, .bool b]) ∧ Aft w w' := by
  have := read_any s w hs
  rw [h] at this
  exact this

theorem read_shown (m : Int) (m0 : 0 ≤ m) (m1 : m ≤ 2145916799) (w : World) :
    Calls Try.prog 9 #[.string ⟨(showF m).toArray⟩] w fun e w' => e = .returned (.tuple #[.int .i64 m, .bool true]) ∧ Aft w w' :=
  read_of ⟨(showF m).toArray⟩ m true (read_show m m0 m1) w (by show (showF m).length ≤ _; rw [showF_len m m0 m1]; decide)

set_option maxHeartbeats 1000000 in
theorem dayruns_any (w : World) :
    Calls Try.prog 3 #[] w fun e w' => e = .returned (.bool true) ∧ Aft w w' := by
  go_enter Try.func3, Try.ntmps3
  go_wp2_with fail
  refine (read_any _ _ (by decide)).mono ?_
  rintro e w1 ⟨rfl, b1⟩
  rw [show Dp.readF _ = (784111777, true) by decide +kernel]
  go_wp2_with fail
  refine (read_any _ _ (by decide)).mono ?_
  rintro e w2 ⟨rfl, b2⟩
  rw [show Dp.readF _ = (0, false) by decide +kernel]
  go_wp2_with fail
  refine (read_any _ _ (by decide)).mono ?_
  rintro e w3 ⟨rfl, b3⟩
  rw [show Dp.readF _ = (951782400, true) by decide +kernel]
  go_wp2_with fail
  refine (read_any _ _ (by decide)).mono ?_
  rintro e w4 ⟨rfl, b4⟩
  rw [show Dp.readF _ = (0, false) by decide +kernel]
  go_wp2_with fail
  refine (show_any _ (by decide) (by decide) _).mono ?_
  rintro e w5 ⟨rfl, b5⟩
  go_wp2_with fail
  go_ret
  refine ⟨ret_bool ?_, b1.trans (b2.trans (b3.trans (b4.trans b5)))⟩
  decide +kernel

theorem walkDayRuns (w : World) : Calls Try.prog 3 #[] w fun e w' => e = .returned (.bool true) ∧ Aft w w' := dayruns_any w

theorem cut_same {a b : List UInt8} (h : a.take 22 = b.take 22) : ((ByteArray.extract ⟨a.toArray⟩ 0 22).toList == (ByteArray.extract ⟨b.toArray⟩ 0 22).toList) = true := by
  rw [bytes_beq, extract_front, extract_front]
  simpa using h
theorem cut_three {a b : List UInt8} (h : a.take 3 = b.take 3) : ((ByteArray.extract ⟨a.toArray⟩ 0 3).toList == (ByteArray.extract ⟨b.toArray⟩ 0 3).toList) = true := by
  rw [bytes_beq, extract_front, extract_front]
  simpa using h
theorem cut_end {a b : List UInt8} (h : a.drop 17 = b.drop 17) (ha : a.length = 29) (hb : b.length = 29) : ((ByteArray.extract ⟨a.toArray⟩ 17 29).toList == (ByteArray.extract ⟨b.toArray⟩ 17 29).toList) = true := by
  have e1 := extract_end ⟨a.toArray⟩ 17
  have e2 := extract_end ⟨b.toArray⟩ 17
  have s1 : (⟨a.toArray⟩ : ByteArray).size = 29 := ha
  have s2 : (⟨b.toArray⟩ : ByteArray).size = 29 := hb
  rw [s1] at e1
  rw [s2] at e2
  rw [bytes_beq, e1, e2]
  simpa using h
theorem show_ne {a b : Int} (a0 : 0 ≤ a) (a1 : a ≤ 2145916799) (b0 : 0 ≤ b) (b1 : b ≤ 2145916799) (h : a ≠ b) : (showF a == showF b) = false := by
  rw [beq_eq_false_iff_ne]
  exact fun e => h (showF_inj a0 a1 b0 b1 e)

end Go.Proofs.Ytoldpmkcmnommaa
