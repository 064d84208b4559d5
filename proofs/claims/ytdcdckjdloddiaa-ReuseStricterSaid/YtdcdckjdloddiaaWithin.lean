/-
  The walk of reservoirbook.Within.
-/
import Derived.Test.YtdcdckjdloddiaaBuf
import Derived.OpenShut
namespace Go.Proofs.Ytdcdckjdloddiaa
open Go.RowKit

theorem within_any (n lo hi : Int) (_ : -9223372036854775808 ≤ n) (_ : n ≤ 9223372036854775807) (h0 : 0 ≤ lo) (h1 : lo ≤ hi) (h2 : hi ≤ 1000000000000) (w : World) :
    Calls Try.prog 12 #[.int .i64 n, .int .i64 lo, .int .i64 hi] w fun e w' => ∃ r : Int, e = .returned (.int .i64 r) ∧ lo ≤ r ∧ r ≤ hi ∧ w = w' := by
  have hm0 : (n.tmod (hi - lo + 1)) < hi - lo + 1 := Int.tmod_lt_of_pos _ (by omega)
  have hm1 : -(hi - lo + 1) < n.tmod (hi - lo + 1) := by
    have h := Int.tmod_lt_of_pos (-n) (show 0 < hi - lo + 1 by omega)
    rw [Int.neg_tmod] at h
    omega
  have hne : ((hi - lo + 1) == 0) = false := by simp; omega
  have hne2 : hi - lo + 1 ≠ 0 := by omega
  go_enter Try.func12, Try.ntmps12
  go_wp2
  all_goals
    go_ret
    exact ⟨_, rfl, by omega, by omega, rfl⟩

end Go.Proofs.Ytdcdckjdloddiaa
