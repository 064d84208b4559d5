/-
  The walk of DayBack.
-/
import Derived.Test.YtoldpmkcmnommaaDayLaws
namespace Go.Proofs.Ytoldpmkcmnommaa
open Go.RowKit

set_option maxHeartbeats 1000000 in
theorem walkDayBack (a0 : Int) (w0 : (Lit.int .i64 a0).wf = true) (a1 : ByteArray) (h1 : a1.size ≤ maxLen) (w : World) :
    Calls Try.prog 5 #[.int .i64 a0, .string a1] w fun e w' => e = .returned (.bool true) ∧ Aft w w' := by
  have hb := bounds_i64 w0
  clear w0
  unfold maxLen at h1
  go_enter Try.func5, Try.ntmps5
  by_cases h200 : 200 < a1.size
  · go_wp2_with fail
    refine (within_any _ 0 2145916799 hb.1 hb.2 (by decide) (by decide) (by decide) _).mono ?_
    rintro e w1 ⟨k, rfl, k0, k1, rfl⟩
    go_wp2_with fail
    refine (show_any k (by omega) (by omega) _).mono ?_
    rintro e w1 ⟨rfl, b1⟩
    go_wp2_with fail
    refine (read_shown k k0 k1 _).mono ?_
    rintro e w2 ⟨rfl, b2⟩
    go_wp2_with fail
    cases hr : Dp.readF ((a1.extract 0 200).data.toList) with | mk b is => ?_
    refine (read_of (a1.extract 0 200) b is hr _ (by first | exact h1 | (simp; omega))).mono ?_
    rintro e w3 ⟨rfl, b3⟩
    cases is
    · clear hr
      go_wp2_with (go_at_call 3; refine (dayruns_any _).mono ?_; rintro e w7 ⟨rfl, b7⟩)
      go_ret
      exact ⟨rfl, b1.trans (b2.trans (b3.trans b7))⟩
    · obtain ⟨hs, q0, q1⟩ := show_read hr
      clear hr
      have hss : (showF b == ((a1.extract 0 200)).toList) = true := by rw [Lib.toList_data, hs]; simp
      clear hs
      go_wp2_with fail
      refine (show_any b (by omega) (by omega) _).mono ?_
      rintro e w4 ⟨rfl, b4⟩
      go_wp2_with (go_at_call 3; refine (dayruns_any _).mono ?_; rintro e w7 ⟨rfl, b7⟩)
      go_ret
      exact ⟨rfl, b1.trans (b2.trans (b3.trans (b4.trans b7)))⟩
  · go_wp2_with fail
    refine (within_any _ 0 2145916799 hb.1 hb.2 (by decide) (by decide) (by decide) _).mono ?_
    rintro e w1 ⟨k, rfl, k0, k1, rfl⟩
    go_wp2_with fail
    refine (show_any k (by omega) (by omega) _).mono ?_
    rintro e w1 ⟨rfl, b1⟩
    go_wp2_with fail
    refine (read_shown k k0 k1 _).mono ?_
    rintro e w2 ⟨rfl, b2⟩
    go_wp2_with fail
    cases hr : Dp.readF (a1.data.toList) with | mk b is => ?_
    refine (read_of a1 b is hr _ (by first | exact h1 | (simp; omega))).mono ?_
    rintro e w3 ⟨rfl, b3⟩
    cases is
    · clear hr
      go_wp2_with (go_at_call 3; refine (dayruns_any _).mono ?_; rintro e w7 ⟨rfl, b7⟩)
      go_ret
      exact ⟨rfl, b1.trans (b2.trans (b3.trans b7))⟩
    · obtain ⟨hs, q0, q1⟩ := show_read hr
      clear hr
      have hss : (showF b == (a1).toList) = true := by rw [Lib.toList_data, hs]; simp
      clear hs
      go_wp2_with fail
      refine (show_any b (by omega) (by omega) _).mono ?_
      rintro e w4 ⟨rfl, b4⟩
      go_wp2_with (go_at_call 3; refine (dayruns_any _).mono ?_; rintro e w7 ⟨rfl, b7⟩)
      go_ret
      exact ⟨rfl, b1.trans (b2.trans (b3.trans (b4.trans b7)))⟩

end Go.Proofs.Ytoldpmkcmnommaa
