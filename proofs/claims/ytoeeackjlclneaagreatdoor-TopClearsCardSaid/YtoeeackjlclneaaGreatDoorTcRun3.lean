/-
  TopClears: runs of the evaluator, part 3.
-/
import Derived.Test.YtoeeackjlclneaaGreatDoorEvM5
namespace Go.Proofs.YtoeeackjlclneaaGreatDoor
set_option linter.unusedVariables false

theorem rO_2_207_2_t : isT (tcO 2 207 303 2 1 1000 (.vy 0)) = true := by kernel_rfl
theorem rO_2_501_2_t : isT (tcO 2 501 599 2 1 1000 (.vy 0)) = true := by kernel_rfl
theorem rK_2_404_t : isT (tcK 2 404 1 1000 (.vy 0)) = true := by kernel_rfl
theorem rO_2_401_3_e : isT (tcO 2 401 403 3 0 0 (.vs [])) = true := by kernel_rfl
theorem rK_2_206_e : isT (tcK 2 206 0 0 (.vs [])) = true := by kernel_rfl
theorem rO_3_305_2_t : isT (tcO 3 305 399 2 1 1000 (.vy 0)) = true := by kernel_rfl
theorem rK_3_200_t : isT (tcK 3 200 1 1000 (.vy 0)) = true := by kernel_rfl
theorem rO_3_201_2_e : isT (tcO 3 201 203 2 0 0 (.vs [])) = true := by kernel_rfl
theorem rO_3_405_3_e : isT (tcO 3 405 499 3 0 0 (.vs [])) = true := by kernel_rfl
theorem rK_3_400_e : isT (tcK 3 400 0 0 (.vs [])) = true := by kernel_rfl
theorem rO_4_401_2_t : isT (tcO 4 401 403 2 1 1000 (.vy 0)) = true := by kernel_rfl
theorem rK_4_205_t : isT (tcK 4 205 1 1000 (.vy 0)) = true := by kernel_rfl
theorem rO_4_207_3_e : isT (tcO 4 207 303 3 0 0 (.vs [])) = true := by kernel_rfl
theorem rO_4_501_3_e : isT (tcO 4 501 599 3 0 0 (.vs [])) = true := by kernel_rfl
theorem rK_4_500_e : isT (tcK 4 500 0 0 (.vs [])) = true := by kernel_rfl
end Go.Proofs.YtoeeackjlclneaaGreatDoor
