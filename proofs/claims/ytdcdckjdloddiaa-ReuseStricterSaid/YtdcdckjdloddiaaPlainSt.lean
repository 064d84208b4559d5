/-
  The walk of keep.Plain.
-/
import Derived.Test.YtdcdckjdloddiaaCtlOf
namespace Go.Proofs.Ytdcdckjdloddiaa
open Go.RowKit

def plS (n : Int) : Bool := n == 200 || (n == 203 || (n == 204 || (n == 300 || (n == 301 || (n == 308 || (n == 404 || (n == 405 || (n == 410 || (n == 414 || n == 501)))))))))
set_option maxHeartbeats 2000000 in
theorem plain_st (n : Int) (w : World) :
    Calls Try.prog 37 #[.int .i64 n] w fun e w' => e = .returned (.bool (plS n)) ∧ w = w' := by
  obtain ⟨b, hb⟩ : ∃ b, plS n = b := ⟨_, rfl⟩
  rw [hb]
  have HB := Lib.hid hb
  clear hb
  go_enter Try.func37, Try.ntmps37
  go_wp2_with fail
  all_goals
    go_ret
    refine ⟨ret_bool ?_, rfl⟩
    have hb := HB.out
    unfold plS at hb
    first
      | (rw [← hb]; rfl)
      | (rw [← hb]; simp [*])
      | (rw [← hb]; symm; simp; omega)


end Go.Proofs.Ytdcdckjdloddiaa
