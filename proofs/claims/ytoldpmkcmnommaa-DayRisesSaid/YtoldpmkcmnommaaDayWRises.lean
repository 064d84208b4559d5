/-
  The walk of DayRises.
-/
import Derived.Test.YtoldpmkcmnommaaDayLaws
namespace Go.Proofs.Ytoldpmkcmnommaa
open Go.RowKit

set_option maxHeartbeats 1000000 in
theorem walkDayRises (a0 : Int) (w0 : (Lit.int .i64 a0).wf = true) (a1 : Int) (w1 : (Lit.int .i64 a1).wf = true) (w : World) :
    Calls Try.prog 8 #[.int .i64 a0, .int .i64 a1] w fun e w' => e = .returned (.bool true) ∧ Aft w w' := by
  have hb := bounds_i64 w0
  have hb1 := bounds_i64 w1
  clear w0 w1
  go_enter Try.func8, Try.ntmps8
  go_wp2_with fail
  refine (within_any _ 0 2145916799 hb.1 hb.2 (by decide) (by decide) (by decide) _).mono ?_
  rintro e w1 ⟨m, rfl, m0, m1, rfl⟩
  go_wp2_with fail
  refine (within_any _ 0 2145916799 hb1.1 hb1.2 (by decide) (by decide) (by decide) _).mono ?_
  rintro e w1 ⟨n, rfl, n0, n1, rfl⟩
  go_wp2_with fail
  refine (show_any m (by omega) (by omega) _).mono ?_
  rintro e w1 ⟨rfl, b1⟩
  go_wp2_with fail
  refine (read_shown m m0 m1 _).mono ?_
  rintro e w2 ⟨rfl, b2⟩
  go_wp2_with fail
  refine (show_any n (by omega) (by omega) _).mono ?_
  rintro e w3 ⟨rfl, b3⟩
  go_wp2_with fail
  refine (read_shown n n0 n1 _).mono ?_
  rintro e w4 ⟨rfl, b4⟩
  go_wp2_with fail
  by_cases hmn : m = n
  · subst hmn
    refine (show_any m (by omega) (by omega) _).mono ?_
    rintro e w5 ⟨rfl, b5⟩
    go_wp2_with fail
    refine (show_any m (by omega) (by omega) _).mono ?_
    rintro e w6 ⟨rfl, b6⟩
    go_wp2_with (go_at_call 3; refine (dayruns_any _).mono ?_; rintro e w7 ⟨rfl, b7⟩)
    go_ret
    exact ⟨rfl, b1.trans (b2.trans (b3.trans (b4.trans (b5.trans (b6.trans b7)))))⟩
  · refine (show_any m (by omega) (by omega) _).mono ?_
    rintro e w5 ⟨rfl, b5⟩
    go_wp2_with fail
    refine (show_any n (by omega) (by omega) _).mono ?_
    rintro e w6 ⟨rfl, b6⟩
    have f := show_ne m0 m1 n0 n1 hmn
    have g : (m == n) = false := by simpa using hmn
    clear hmn
    go_wp2_with (go_at_call 3; refine (dayruns_any _).mono ?_; rintro e w7 ⟨rfl, b7⟩)
    go_ret
    exact ⟨rfl, b1.trans (b2.trans (b3.trans (b4.trans (b5.trans (b6.trans b7)))))⟩

end Go.Proofs.Ytoldpmkcmnommaa
