/-
  TopClears: runs of the evaluator, part 4.
-/
import Derived.Test.YtoeeackjlclneaaGreatDoorEvM5
namespace Go.Proofs.YtoeeackjlclneaaGreatDoor
set_option linter.unusedVariables false

theorem rO_2_207_3_t : isT (tcO 2 207 303 3 1 1000 (.vy 0)) = true := by kernel_rfl
theorem rO_2_501_3_t : isT (tcO 2 501 599 3 1 1000 (.vy 0)) = true := by kernel_rfl
theorem rK_2_500_t : isT (tcK 2 500 1 1000 (.vy 0)) = true := by kernel_rfl
theorem rO_2_405_2_e : isT (tcO 2 405 499 2 0 0 (.vs [])) = true := by kernel_rfl
theorem rK_2_304_e : isT (tcK 2 304 0 0 (.vs [])) = true := by kernel_rfl
theorem rO_3_305_3_t : isT (tcO 3 305 399 3 1 1000 (.vy 0)) = true := by kernel_rfl
theorem rK_3_204_t : isT (tcK 3 204 1 1000 (.vy 0)) = true := by kernel_rfl
theorem rO_3_207_2_e : isT (tcO 3 207 303 2 0 0 (.vs [])) = true := by kernel_rfl
theorem rO_3_501_2_e : isT (tcO 3 501 599 2 0 0 (.vs [])) = true := by kernel_rfl
theorem rK_3_404_e : isT (tcK 3 404 0 0 (.vs [])) = true := by kernel_rfl
theorem rO_4_401_3_t : isT (tcO 4 401 403 3 1 1000 (.vy 0)) = true := by kernel_rfl
theorem rK_4_206_t : isT (tcK 4 206 1 1000 (.vy 0)) = true := by kernel_rfl
theorem rO_4_305_2_e : isT (tcO 4 305 399 2 0 0 (.vs [])) = true := by kernel_rfl
theorem rK_4_200_e : isT (tcK 4 200 0 0 (.vs [])) = true := by kernel_rfl
end Go.Proofs.YtoeeackjlclneaaGreatDoor
