/-
  TopMany: runs, part 9.
-/
import Derived.Test.YtoeeackjlclneaaGreatDoorEvM7
namespace Go.Proofs.YtoeeackjlclneaaGreatDoor
set_option linter.unusedVariables false

theorem rK_12_8_t : tmR (vmK 12 8 1 1000) (.vy 0) = .v (.vb true) .e 0 := by kernel_rfl
theorem rK_13_7_t : tmR (vmK 13 7 1 1000) (.vy 0) = .v (.vb true) .e 0 := by kernel_rfl
theorem rK_9_8_t : tmR (vmK 9 8 1 1000) (.vy 0) = .v (.vb true) .e 0 := by kernel_rfl
theorem rK_13_5_t : tmR (vmK 13 5 1 1000) (.vy 0) = .v (.vb true) .e 0 := by kernel_rfl
theorem rK_10_6_t : tmR (vmK 10 6 1 1000) (.vy 0) = .v (.vb true) .e 0 := by kernel_rfl
theorem rK_10_5_t : tmR (vmK 10 5 1 1000) (.vy 0) = .v (.vb true) .e 0 := by kernel_rfl
theorem rK_14_3_t : tmR (vmK 14 3 1 1000) (.vy 0) = .v (.vb true) .e 0 := by kernel_rfl
theorem rK_14_2_t : tmR (vmK 14 2 1 1000) (.vy 0) = .v (.vb true) .e 0 := by kernel_rfl
theorem rK_9_4_t : tmR (vmK 9 4 1 1000) (.vy 0) = .v (.vb true) .e 0 := by kernel_rfl
theorem rK_9_3_t : tmR (vmK 9 3 1 1000) (.vy 0) = .v (.vb true) .e 0 := by kernel_rfl
theorem rK_6_4_t : tmR (vmK 6 4 1 1000) (.vy 0) = .v (.vb true) .e 0 := by kernel_rfl
theorem rK_11_1_t : tmR (vmK 11 1 1 1000) (.vy 0) = .v (.vb true) .e 0 := by kernel_rfl
theorem rK_10_1_t : tmR (vmK 10 1 1 1000) (.vy 0) = .v (.vb true) .e 0 := by kernel_rfl
theorem rK_7_1_t : tmR (vmK 7 1 1 1000) (.vy 0) = .v (.vb true) .e 0 := by kernel_rfl
theorem rK_3_2_t : tmR (vmK 3 2 1 1000) (.vy 0) = .v (.vb true) .e 0 := by kernel_rfl
end Go.Proofs.YtoeeackjlclneaaGreatDoor
