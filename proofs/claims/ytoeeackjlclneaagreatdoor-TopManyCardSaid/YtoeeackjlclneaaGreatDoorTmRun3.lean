/-
  TopMany: runs, part 3.
-/
import Derived.Test.YtoeeackjlclneaaGreatDoorEvM7
namespace Go.Proofs.YtoeeackjlclneaaGreatDoor
set_option linter.unusedVariables false

theorem rK_14_8_t : tmR (vmK 14 8 1 1000) (.vy 0) = .v (.vb true) .e 0 := by kernel_rfl
theorem rK_12_7_t : tmR (vmK 12 7 1 1000) (.vy 0) = .v (.vb true) .e 0 := by kernel_rfl
theorem rK_15_5_t : tmR (vmK 15 5 1 1000) (.vy 0) = .v (.vb true) .e 0 := by kernel_rfl
theorem rK_11_6_t : tmR (vmK 11 6 1 1000) (.vy 0) = .v (.vb true) .e 0 := by kernel_rfl
theorem rK_12_5_t : tmR (vmK 12 5 1 1000) (.vy 0) = .v (.vb true) .e 0 := by kernel_rfl
theorem rK_13_4_t : tmR (vmK 13 4 1 1000) (.vy 0) = .v (.vb true) .e 0 := by kernel_rfl
theorem rO_6_t : tmR (vmO 6 6 1 1000) (.vy 0) = .v (.vb true) .e 0 := by kernel_rfl
theorem rK_8_5_t : tmR (vmK 8 5 1 1000) (.vy 0) = .v (.vb true) .e 0 := by kernel_rfl
theorem rK_15_1_t : tmR (vmK 15 1 1 1000) (.vy 0) = .v (.vb true) .e 0 := by kernel_rfl
theorem rO_5_t : tmR (vmO 5 5 1 1000) (.vy 0) = .v (.vb true) .e 0 := by kernel_rfl
theorem rK_10_2_t : tmR (vmK 10 2 1 1000) (.vy 0) = .v (.vb true) .e 0 := by kernel_rfl
theorem rK_7_3_t : tmR (vmK 7 3 1 1000) (.vy 0) = .v (.vb true) .e 0 := by kernel_rfl
theorem rK_9_1_t : tmR (vmK 9 1 1 1000) (.vy 0) = .v (.vb true) .e 0 := by kernel_rfl
theorem rK_8_1_t : tmR (vmK 8 1 1 1000) (.vy 0) = .v (.vb true) .e 0 := by kernel_rfl
theorem rO_2_t : tmR (vmO 2 2 1 1000) (.vy 0) = .v (.vb true) .e 0 := by kernel_rfl
theorem rL : tmR vmL (.vy 0) = .v (.vb true) .e 0 := by kernel_rfl
end Go.Proofs.YtoeeackjlclneaaGreatDoor
