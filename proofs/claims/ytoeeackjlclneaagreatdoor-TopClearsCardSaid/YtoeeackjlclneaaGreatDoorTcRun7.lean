/-
  TopClears: runs of the evaluator, part 7.
-/
import Derived.Test.YtoeeackjlclneaaGreatDoorEvM5
namespace Go.Proofs.YtoeeackjlclneaaGreatDoor
set_option linter.unusedVariables false

theorem rO_2_401_2_t : isT (tcO 2 401 403 2 1 1000 (.vy 0)) = true := by kernel_rfl
theorem rK_2_205_t : isT (tcK 2 205 1 1000 (.vy 0)) = true := by kernel_rfl
theorem rO_2_207_3_e : isT (tcO 2 207 303 3 0 0 (.vs [])) = true := by kernel_rfl
theorem rO_2_501_3_e : isT (tcO 2 501 599 3 0 0 (.vs [])) = true := by kernel_rfl
theorem rK_2_500_e : isT (tcK 2 500 0 0 (.vs [])) = true := by kernel_rfl
theorem rO_3_405_2_t : isT (tcO 3 405 499 2 1 1000 (.vy 0)) = true := by kernel_rfl
theorem rK_3_304_t : isT (tcK 3 304 1 1000 (.vy 0)) = true := by kernel_rfl
theorem rO_3_305_3_e : isT (tcO 3 305 399 3 0 0 (.vs [])) = true := by kernel_rfl
theorem rK_3_204_e : isT (tcK 3 204 0 0 (.vs [])) = true := by kernel_rfl
theorem rO_4_207_2_t : isT (tcO 4 207 303 2 1 1000 (.vy 0)) = true := by kernel_rfl
theorem rO_4_501_2_t : isT (tcO 4 501 599 2 1 1000 (.vy 0)) = true := by kernel_rfl
theorem rK_4_404_t : isT (tcK 4 404 1 1000 (.vy 0)) = true := by kernel_rfl
theorem rO_4_401_3_e : isT (tcO 4 401 403 3 0 0 (.vs [])) = true := by kernel_rfl
theorem rK_4_206_e : isT (tcK 4 206 0 0 (.vs [])) = true := by kernel_rfl
end Go.Proofs.YtoeeackjlclneaaGreatDoor
