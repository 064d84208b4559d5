/-
  TopMany: runs, part 7.
-/
import Derived.Test.YtoeeackjlclneaaGreatDoorEvM7
namespace Go.Proofs.YtoeeackjlclneaaGreatDoor
set_option linter.unusedVariables false

theorem rK_15_7_t : tmR (vmK 15 7 1 1000) (.vy 0) = .v (.vb true) .e 0 := by kernel_rfl
theorem rK_15_6_t : tmR (vmK 15 6 1 1000) (.vy 0) = .v (.vb true) .e 0 := by kernel_rfl
theorem rK_13_6_t : tmR (vmK 13 6 1 1000) (.vy 0) = .v (.vb true) .e 0 := by kernel_rfl
theorem rK_12_6_t : tmR (vmK 12 6 1 1000) (.vy 0) = .v (.vb true) .e 0 := by kernel_rfl
theorem rK_9_6_t : tmR (vmK 9 6 1 1000) (.vy 0) = .v (.vb true) .e 0 := by kernel_rfl
theorem rK_8_6_t : tmR (vmK 8 6 1 1000) (.vy 0) = .v (.vb true) .e 0 := by kernel_rfl
theorem rK_11_4_t : tmR (vmK 11 4 1 1000) (.vy 0) = .v (.vb true) .e 0 := by kernel_rfl
theorem rK_10_4_t : tmR (vmK 10 4 1 1000) (.vy 0) = .v (.vb true) .e 0 := by kernel_rfl
theorem rK_13_2_t : tmR (vmK 13 2 1 1000) (.vy 0) = .v (.vb true) .e 0 := by kernel_rfl
theorem rK_7_4_t : tmR (vmK 7 4 1 1000) (.vy 0) = .v (.vb true) .e 0 := by kernel_rfl
theorem rK_13_1_t : tmR (vmK 13 1 1 1000) (.vy 0) = .v (.vb true) .e 0 := by kernel_rfl
theorem rO_4_t : tmR (vmO 4 4 1 1000) (.vy 0) = .v (.vb true) .e 0 := by kernel_rfl
theorem rK_5_3_t : tmR (vmK 5 3 1 1000) (.vy 0) = .v (.vb true) .e 0 := by kernel_rfl
theorem rK_5_2_t : tmR (vmK 5 2 1 1000) (.vy 0) = .v (.vb true) .e 0 := by kernel_rfl
theorem rK_5_1_t : tmR (vmK 5 1 1 1000) (.vy 0) = .v (.vb true) .e 0 := by kernel_rfl
end Go.Proofs.YtoeeackjlclneaaGreatDoor
