/-
  TopClears: runs of the evaluator, part 8.
-/
import Derived.Test.YtoeeackjlclneaaGreatDoorEvM5
namespace Go.Proofs.YtoeeackjlclneaaGreatDoor
set_option linter.unusedVariables false

theorem rO_2_401_3_t : isT (tcO 2 401 403 3 1 1000 (.vy 0)) = true := by kernel_rfl
theorem rK_2_206_t : isT (tcK 2 206 1 1000 (.vy 0)) = true := by kernel_rfl
theorem rO_2_305_2_e : isT (tcO 2 305 399 2 0 0 (.vs [])) = true := by kernel_rfl
theorem rK_2_200_e : isT (tcK 2 200 0 0 (.vs [])) = true := by kernel_rfl
theorem rO_3_201_2_t : isT (tcO 3 201 203 2 1 1000 (.vy 0)) = true := by kernel_rfl
theorem rO_3_405_3_t : isT (tcO 3 405 499 3 1 1000 (.vy 0)) = true := by kernel_rfl
theorem rK_3_400_t : isT (tcK 3 400 1 1000 (.vy 0)) = true := by kernel_rfl
theorem rO_3_401_2_e : isT (tcO 3 401 403 2 0 0 (.vs [])) = true := by kernel_rfl
theorem rK_3_205_e : isT (tcK 3 205 0 0 (.vs [])) = true := by kernel_rfl
theorem rO_4_207_3_t : isT (tcO 4 207 303 3 1 1000 (.vy 0)) = true := by kernel_rfl
theorem rO_4_501_3_t : isT (tcO 4 501 599 3 1 1000 (.vy 0)) = true := by kernel_rfl
theorem rK_4_500_t : isT (tcK 4 500 1 1000 (.vy 0)) = true := by kernel_rfl
theorem rO_4_405_2_e : isT (tcO 4 405 499 2 0 0 (.vs [])) = true := by kernel_rfl
theorem rK_4_304_e : isT (tcK 4 304 0 0 (.vs [])) = true := by kernel_rfl
end Go.Proofs.YtoeeackjlclneaaGreatDoor
