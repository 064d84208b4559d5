/-
  TopMany: runs, part 11.
-/
import Derived.Test.YtoeeackjlclneaaGreatDoorEvM7
namespace Go.Proofs.YtoeeackjlclneaaGreatDoor
set_option linter.unusedVariables false

theorem rK_14_7_t : tmR (vmK 14 7 1 1000) (.vy 0) = .v (.vb true) .e 0 := by kernel_rfl
theorem rK_11_8_t : tmR (vmK 11 8 1 1000) (.vy 0) = .v (.vb true) .e 0 := by kernel_rfl
theorem rK_11_7_t : tmR (vmK 11 7 1 1000) (.vy 0) = .v (.vb true) .e 0 := by kernel_rfl
theorem rK_9_7_t : tmR (vmK 9 7 1 1000) (.vy 0) = .v (.vb true) .e 0 := by kernel_rfl
theorem rO_7_t : tmR (vmO 7 7 1 1000) (.vy 0) = .v (.vb true) .e 0 := by kernel_rfl
theorem rK_15_3_t : tmR (vmK 15 3 1 1000) (.vy 0) = .v (.vb true) .e 0 := by kernel_rfl
theorem rK_9_5_t : tmR (vmK 9 5 1 1000) (.vy 0) = .v (.vb true) .e 0 := by kernel_rfl
theorem rK_12_3_t : tmR (vmK 12 3 1 1000) (.vy 0) = .v (.vb true) .e 0 := by kernel_rfl
theorem rK_6_5_t : tmR (vmK 6 5 1 1000) (.vy 0) = .v (.vb true) .e 0 := by kernel_rfl
theorem rK_10_3_t : tmR (vmK 10 3 1 1000) (.vy 0) = .v (.vb true) .e 0 := by kernel_rfl
theorem rK_5_4_t : tmR (vmK 5 4 1 1000) (.vy 0) = .v (.vb true) .e 0 := by kernel_rfl
theorem rK_12_1_t : tmR (vmK 12 1 1 1000) (.vy 0) = .v (.vb true) .e 0 := by kernel_rfl
theorem rK_4_3_t : tmR (vmK 4 3 1 1000) (.vy 0) = .v (.vb true) .e 0 := by kernel_rfl
theorem rK_6_2_t : tmR (vmK 6 2 1 1000) (.vy 0) = .v (.vb true) .e 0 := by kernel_rfl
theorem rK_3_1_t : tmR (vmK 3 1 1 1000) (.vy 0) = .v (.vb true) .e 0 := by kernel_rfl
theorem rK_2_1_t : tmR (vmK 2 1 1 1000) (.vy 0) = .v (.vb true) .e 0 := by kernel_rfl
end Go.Proofs.YtoeeackjlclneaaGreatDoor
