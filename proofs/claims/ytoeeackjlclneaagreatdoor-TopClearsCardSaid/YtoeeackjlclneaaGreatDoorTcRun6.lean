/-
  TopClears: runs of the evaluator, part 6.
-/
import Derived.Test.YtoeeackjlclneaaGreatDoorEvM5
namespace Go.Proofs.YtoeeackjlclneaaGreatDoor
set_option linter.unusedVariables false

theorem rO_2_305_3_t : isT (tcO 2 305 399 3 1 1000 (.vy 0)) = true := by kernel_rfl
theorem rK_2_204_t : isT (tcK 2 204 1 1000 (.vy 0)) = true := by kernel_rfl
theorem rO_2_207_2_e : isT (tcO 2 207 303 2 0 0 (.vs [])) = true := by kernel_rfl
theorem rO_2_501_2_e : isT (tcO 2 501 599 2 0 0 (.vs [])) = true := by kernel_rfl
theorem rK_2_404_e : isT (tcK 2 404 0 0 (.vs [])) = true := by kernel_rfl
theorem rO_3_401_3_t : isT (tcO 3 401 403 3 1 1000 (.vy 0)) = true := by kernel_rfl
theorem rK_3_206_t : isT (tcK 3 206 1 1000 (.vy 0)) = true := by kernel_rfl
theorem rO_3_305_2_e : isT (tcO 3 305 399 2 0 0 (.vs [])) = true := by kernel_rfl
theorem rK_3_200_e : isT (tcK 3 200 0 0 (.vs [])) = true := by kernel_rfl
theorem rO_4_201_2_t : isT (tcO 4 201 203 2 1 1000 (.vy 0)) = true := by kernel_rfl
theorem rO_4_405_3_t : isT (tcO 4 405 499 3 1 1000 (.vy 0)) = true := by kernel_rfl
theorem rK_4_400_t : isT (tcK 4 400 1 1000 (.vy 0)) = true := by kernel_rfl
theorem rO_4_401_2_e : isT (tcO 4 401 403 2 0 0 (.vs [])) = true := by kernel_rfl
theorem rK_4_205_e : isT (tcK 4 205 0 0 (.vs [])) = true := by kernel_rfl
end Go.Proofs.YtoeeackjlclneaaGreatDoor
