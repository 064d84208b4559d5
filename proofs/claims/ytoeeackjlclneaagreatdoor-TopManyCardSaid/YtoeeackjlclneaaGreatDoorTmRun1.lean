/-
  TopMany: runs, part 1.
-/
import Derived.Test.YtoeeackjlclneaaGreatDoorEvM7
namespace Go.Proofs.YtoeeackjlclneaaGreatDoor
set_option linter.unusedVariables false

theorem rK_15_8_t : tmR (vmK 15 8 1 1000) (.vy 0) = .v (.vb true) .e 0 := by kernel_rfl
theorem rK_14_6_t : tmR (vmK 14 6 1 1000) (.vy 0) = .v (.vb true) .e 0 := by kernel_rfl
theorem rK_10_7_t : tmR (vmK 10 7 1 1000) (.vy 0) = .v (.vb true) .e 0 := by kernel_rfl
theorem rK_8_7_t : tmR (vmK 8 7 1 1000) (.vy 0) = .v (.vb true) .e 0 := by kernel_rfl
theorem rK_15_4_t : tmR (vmK 15 4 1 1000) (.vy 0) = .v (.vb true) .e 0 := by kernel_rfl
theorem rK_12_4_t : tmR (vmK 12 4 1 1000) (.vy 0) = .v (.vb true) .e 0 := by kernel_rfl
theorem rK_7_6_t : tmR (vmK 7 6 1 1000) (.vy 0) = .v (.vb true) .e 0 := by kernel_rfl
theorem rK_7_5_t : tmR (vmK 7 5 1 1000) (.vy 0) = .v (.vb true) .e 0 := by kernel_rfl
theorem rK_11_3_t : tmR (vmK 11 3 1 1000) (.vy 0) = .v (.vb true) .e 0 := by kernel_rfl
theorem rK_14_1_t : tmR (vmK 14 1 1 1000) (.vy 0) = .v (.vb true) .e 0 := by kernel_rfl
theorem rK_11_2_t : tmR (vmK 11 2 1 1000) (.vy 0) = .v (.vb true) .e 0 := by kernel_rfl
theorem rK_6_3_t : tmR (vmK 6 3 1 1000) (.vy 0) = .v (.vb true) .e 0 := by kernel_rfl
theorem rK_8_2_t : tmR (vmK 8 2 1 1000) (.vy 0) = .v (.vb true) .e 0 := by kernel_rfl
theorem rK_4_2_t : tmR (vmK 4 2 1 1000) (.vy 0) = .v (.vb true) .e 0 := by kernel_rfl
theorem rK_6_1_t : tmR (vmK 6 1 1 1000) (.vy 0) = .v (.vb true) .e 0 := by kernel_rfl
end Go.Proofs.YtoeeackjlclneaaGreatDoor
