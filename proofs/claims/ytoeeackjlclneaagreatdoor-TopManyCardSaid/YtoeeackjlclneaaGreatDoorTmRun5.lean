/-
  TopMany: runs, part 5.
-/
import Derived.Test.YtoeeackjlclneaaGreatDoorEvM7
namespace Go.Proofs.YtoeeackjlclneaaGreatDoor
set_option linter.unusedVariables false

theorem rK_13_8_t : tmR (vmK 13 8 1 1000) (.vy 0) = .v (.vb true) .e 0 := by kernel_rfl
theorem rK_10_8_t : tmR (vmK 10 8 1 1000) (.vy 0) = .v (.vb true) .e 0 := by kernel_rfl
theorem rO_8_t : tmR (vmO 8 8 1 1000) (.vy 0) = .v (.vb true) .e 0 := by kernel_rfl
theorem rK_14_5_t : tmR (vmK 14 5 1 1000) (.vy 0) = .v (.vb true) .e 0 := by kernel_rfl
theorem rK_14_4_t : tmR (vmK 14 4 1 1000) (.vy 0) = .v (.vb true) .e 0 := by kernel_rfl
theorem rK_11_5_t : tmR (vmK 11 5 1 1000) (.vy 0) = .v (.vb true) .e 0 := by kernel_rfl
theorem rK_13_3_t : tmR (vmK 13 3 1 1000) (.vy 0) = .v (.vb true) .e 0 := by kernel_rfl
theorem rK_15_2_t : tmR (vmK 15 2 1 1000) (.vy 0) = .v (.vb true) .e 0 := by kernel_rfl
theorem rK_8_4_t : tmR (vmK 8 4 1 1000) (.vy 0) = .v (.vb true) .e 0 := by kernel_rfl
theorem rK_12_2_t : tmR (vmK 12 2 1 1000) (.vy 0) = .v (.vb true) .e 0 := by kernel_rfl
theorem rK_8_3_t : tmR (vmK 8 3 1 1000) (.vy 0) = .v (.vb true) .e 0 := by kernel_rfl
theorem rK_9_2_t : tmR (vmK 9 2 1 1000) (.vy 0) = .v (.vb true) .e 0 := by kernel_rfl
theorem rK_7_2_t : tmR (vmK 7 2 1 1000) (.vy 0) = .v (.vb true) .e 0 := by kernel_rfl
theorem rO_3_t : tmR (vmO 3 3 1 1000) (.vy 0) = .v (.vb true) .e 0 := by kernel_rfl
theorem rK_4_1_t : tmR (vmK 4 1 1 1000) (.vy 0) = .v (.vb true) .e 0 := by kernel_rfl
theorem rO_1_t : tmR (vmO 1 1 1 1000) (.vy 0) = .v (.vb true) .e 0 := by kernel_rfl
end Go.Proofs.YtoeeackjlclneaaGreatDoor
