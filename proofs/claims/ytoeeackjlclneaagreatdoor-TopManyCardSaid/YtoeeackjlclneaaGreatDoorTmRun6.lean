/-
  TopMany: runs, part 6.
-/
import Derived.Test.YtoeeackjlclneaaGreatDoorEvM7
namespace Go.Proofs.YtoeeackjlclneaaGreatDoor
set_option linter.unusedVariables false

theorem rK_13_8_e : tmR (vmK 13 8 0 0) (.vs []) = .v (.vb true) .e 0 := by kernel_rfl
theorem rK_10_8_e : tmR (vmK 10 8 0 0) (.vs []) = .v (.vb true) .e 0 := by kernel_rfl
theorem rO_8_e : tmR (vmO 8 8 0 0) (.vs []) = .v (.vb true) .e 0 := by kernel_rfl
theorem rK_14_5_e : tmR (vmK 14 5 0 0) (.vs []) = .v (.vb true) .e 0 := by kernel_rfl
theorem rK_14_4_e : tmR (vmK 14 4 0 0) (.vs []) = .v (.vb true) .e 0 := by kernel_rfl
theorem rK_11_5_e : tmR (vmK 11 5 0 0) (.vs []) = .v (.vb true) .e 0 := by kernel_rfl
theorem rK_13_3_e : tmR (vmK 13 3 0 0) (.vs []) = .v (.vb true) .e 0 := by kernel_rfl
theorem rK_15_2_e : tmR (vmK 15 2 0 0) (.vs []) = .v (.vb true) .e 0 := by kernel_rfl
theorem rK_8_4_e : tmR (vmK 8 4 0 0) (.vs []) = .v (.vb true) .e 0 := by kernel_rfl
theorem rK_12_2_e : tmR (vmK 12 2 0 0) (.vs []) = .v (.vb true) .e 0 := by kernel_rfl
theorem rK_8_3_e : tmR (vmK 8 3 0 0) (.vs []) = .v (.vb true) .e 0 := by kernel_rfl
theorem rK_9_2_e : tmR (vmK 9 2 0 0) (.vs []) = .v (.vb true) .e 0 := by kernel_rfl
theorem rK_7_2_e : tmR (vmK 7 2 0 0) (.vs []) = .v (.vb true) .e 0 := by kernel_rfl
theorem rO_3_e : tmR (vmO 3 3 0 0) (.vs []) = .v (.vb true) .e 0 := by kernel_rfl
theorem rK_4_1_e : tmR (vmK 4 1 0 0) (.vs []) = .v (.vb true) .e 0 := by kernel_rfl
theorem rO_1_e : tmR (vmO 1 1 0 0) (.vs []) = .v (.vb true) .e 0 := by kernel_rfl
end Go.Proofs.YtoeeackjlclneaaGreatDoor
