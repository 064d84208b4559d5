/-
  TopClears: runs of the evaluator, part 1.
-/
import Derived.Test.YtoeeackjlclneaaGreatDoorEvM5
namespace Go.Proofs.YtoeeackjlclneaaGreatDoor
set_option linter.unusedVariables false

theorem rL : isT tcL = true := by kernel_rfl
theorem rO_2_405_2_t : isT (tcO 2 405 499 2 1 1000 (.vy 0)) = true := by kernel_rfl
theorem rK_2_304_t : isT (tcK 2 304 1 1000 (.vy 0)) = true := by kernel_rfl
theorem rO_2_305_3_e : isT (tcO 2 305 399 3 0 0 (.vs [])) = true := by kernel_rfl
theorem rK_2_204_e : isT (tcK 2 204 0 0 (.vs [])) = true := by kernel_rfl
theorem rO_3_207_2_t : isT (tcO 3 207 303 2 1 1000 (.vy 0)) = true := by kernel_rfl
theorem rO_3_501_2_t : isT (tcO 3 501 599 2 1 1000 (.vy 0)) = true := by kernel_rfl
theorem rK_3_404_t : isT (tcK 3 404 1 1000 (.vy 0)) = true := by kernel_rfl
theorem rO_3_401_3_e : isT (tcO 3 401 403 3 0 0 (.vs [])) = true := by kernel_rfl
theorem rK_3_206_e : isT (tcK 3 206 0 0 (.vs [])) = true := by kernel_rfl
theorem rO_4_305_2_t : isT (tcO 4 305 399 2 1 1000 (.vy 0)) = true := by kernel_rfl
theorem rK_4_200_t : isT (tcK 4 200 1 1000 (.vy 0)) = true := by kernel_rfl
theorem rO_4_201_2_e : isT (tcO 4 201 203 2 0 0 (.vs [])) = true := by kernel_rfl
theorem rO_4_405_3_e : isT (tcO 4 405 499 3 0 0 (.vs [])) = true := by kernel_rfl
theorem rK_4_400_e : isT (tcK 4 400 0 0 (.vs [])) = true := by kernel_rfl
end Go.Proofs.YtoeeackjlclneaaGreatDoor
