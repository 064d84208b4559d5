/-
  TopClears: runs of the evaluator, part 2.
-/
import Derived.Test.YtoeeackjlclneaaGreatDoorEvM5
namespace Go.Proofs.YtoeeackjlclneaaGreatDoor
set_option linter.unusedVariables false

theorem rO_2_201_2_t : isT (tcO 2 201 203 2 1 1000 (.vy 0)) = true := by kernel_rfl
theorem rO_2_405_3_t : isT (tcO 2 405 499 3 1 1000 (.vy 0)) = true := by kernel_rfl
theorem rK_2_400_t : isT (tcK 2 400 1 1000 (.vy 0)) = true := by kernel_rfl
theorem rO_2_401_2_e : isT (tcO 2 401 403 2 0 0 (.vs [])) = true := by kernel_rfl
theorem rK_2_205_e : isT (tcK 2 205 0 0 (.vs [])) = true := by kernel_rfl
theorem rO_3_207_3_t : isT (tcO 3 207 303 3 1 1000 (.vy 0)) = true := by kernel_rfl
theorem rO_3_501_3_t : isT (tcO 3 501 599 3 1 1000 (.vy 0)) = true := by kernel_rfl
theorem rK_3_500_t : isT (tcK 3 500 1 1000 (.vy 0)) = true := by kernel_rfl
theorem rO_3_405_2_e : isT (tcO 3 405 499 2 0 0 (.vs [])) = true := by kernel_rfl
theorem rK_3_304_e : isT (tcK 3 304 0 0 (.vs [])) = true := by kernel_rfl
theorem rO_4_305_3_t : isT (tcO 4 305 399 3 1 1000 (.vy 0)) = true := by kernel_rfl
theorem rK_4_204_t : isT (tcK 4 204 1 1000 (.vy 0)) = true := by kernel_rfl
theorem rO_4_207_2_e : isT (tcO 4 207 303 2 0 0 (.vs [])) = true := by kernel_rfl
theorem rO_4_501_2_e : isT (tcO 4 501 599 2 0 0 (.vs [])) = true := by kernel_rfl
theorem rK_4_404_e : isT (tcK 4 404 0 0 (.vs [])) = true := by kernel_rfl
end Go.Proofs.YtoeeackjlclneaaGreatDoor
