/-
  TopClears: runs of the evaluator, part 5.
-/
import Derived.Test.YtoeeackjlclneaaGreatDoorEvM5
namespace Go.Proofs.YtoeeackjlclneaaGreatDoor
set_option linter.unusedVariables false

theorem rO_2_305_2_t : isT (tcO 2 305 399 2 1 1000 (.vy 0)) = true := by kernel_rfl
theorem rK_2_200_t : isT (tcK 2 200 1 1000 (.vy 0)) = true := by kernel_rfl
theorem rO_2_201_2_e : isT (tcO 2 201 203 2 0 0 (.vs [])) = true := by kernel_rfl
theorem rO_2_405_3_e : isT (tcO 2 405 499 3 0 0 (.vs [])) = true := by kernel_rfl
theorem rK_2_400_e : isT (tcK 2 400 0 0 (.vs [])) = true := by kernel_rfl
theorem rO_3_401_2_t : isT (tcO 3 401 403 2 1 1000 (.vy 0)) = true := by kernel_rfl
theorem rK_3_205_t : isT (tcK 3 205 1 1000 (.vy 0)) = true := by kernel_rfl
theorem rO_3_207_3_e : isT (tcO 3 207 303 3 0 0 (.vs [])) = true := by kernel_rfl
theorem rO_3_501_3_e : isT (tcO 3 501 599 3 0 0 (.vs [])) = true := by kernel_rfl
theorem rK_3_500_e : isT (tcK 3 500 0 0 (.vs [])) = true := by kernel_rfl
theorem rO_4_405_2_t : isT (tcO 4 405 499 2 1 1000 (.vy 0)) = true := by kernel_rfl
theorem rK_4_304_t : isT (tcK 4 304 1 1000 (.vy 0)) = true := by kernel_rfl
theorem rO_4_305_3_e : isT (tcO 4 305 399 3 0 0 (.vs [])) = true := by kernel_rfl
theorem rK_4_204_e : isT (tcK 4 204 0 0 (.vs [])) = true := by kernel_rfl
end Go.Proofs.YtoeeackjlclneaaGreatDoor
