/-
  The walk of DayTells.
-/
import Derived.Test.YtoldpmkcmnommaaDayLaws
import Derived.Test.YtoldpmkcmnommaaDayRefShow
namespace Go.Proofs.Ytoldpmkcmnommaa
open Go.RowKit

theorem refday_of (s : ByteArray) (a : Int) (b : Bool) (h : Dp.readF s.data.toList = (a, b)) (w : World) :
    Calls Try.prog 11 #[.string s] w fun e w' => e = .returned (.tuple #[.int .i64 a, .bool b]) ∧ Aft w w' := by
  have := refday_any s w
  rw [refF_eq, h] at this
  exact this

set_option maxHeartbeats 1000000 in
theorem walkDayTells (a0 : ByteArray) (h1 : a0.size ≤ maxLen) (a1 : Int) (w0 : (Lit.int .i64 a1).wf = true) (w : World) :
    Calls Try.prog 4 #[.string a0, .int .i64 a1] w fun e w' => e = .returned (.bool true) ∧ Aft w w' := by
  have hb := bounds_i64 w0
  clear w0
  unfold maxLen at h1
  go_enter Try.func4, Try.ntmps4
  by_cases h200 : 200 < a0.size
  · go_wp2_with fail
    cases hr : Dp.readF (ByteArray.data (a0.extract 0 200)).toList with | mk ra rb => ?_
    have HR := Lib.hid hr
    clear hr
    refine (read_of (a0.extract 0 200) ra rb HR.out _ (by first | exact h1 | (simp; omega))).mono ?_
    rintro e w1 ⟨rfl, b1⟩
    go_wp2_with fail
    refine (refday_of (a0.extract 0 200) ra rb HR.out _).mono ?_
    rintro e w2 ⟨rfl, b2⟩
    clear HR
    go_wp2_with fail
    refine (show_any a1 hb.1 hb.2 _).mono ?_
    rintro e w3 ⟨rfl, b3⟩
    go_wp2_with fail
    refine (refshow_any a1 hb.1 hb.2 _).mono ?_
    rintro e w4 ⟨rfl, b4⟩
    go_wp2_with (go_at_call 3; refine (dayruns_any _).mono ?_; rintro e w7 ⟨rfl, b7⟩)
    go_ret
    exact ⟨rfl, b1.trans (b2.trans (b3.trans (b4.trans b7)))⟩
  · go_wp2_with fail
    cases hr : Dp.readF (ByteArray.data a0).toList with | mk ra rb => ?_
    have HR := Lib.hid hr
    clear hr
    refine (read_of a0 ra rb HR.out _ (by first | exact h1 | (simp; omega))).mono ?_
    rintro e w1 ⟨rfl, b1⟩
    go_wp2_with fail
    refine (refday_of a0 ra rb HR.out _).mono ?_
    rintro e w2 ⟨rfl, b2⟩
    clear HR
    go_wp2_with fail
    refine (show_any a1 hb.1 hb.2 _).mono ?_
    rintro e w3 ⟨rfl, b3⟩
    go_wp2_with fail
    refine (refshow_any a1 hb.1 hb.2 _).mono ?_
    rintro e w4 ⟨rfl, b4⟩
    go_wp2_with (go_at_call 3; refine (dayruns_any _).mono ?_; rintro e w7 ⟨rfl, b7⟩)
    go_ret
    exact ⟨rfl, b1.trans (b2.trans (b3.trans (b4.trans b7)))⟩

end Go.Proofs.Ytoldpmkcmnommaa
