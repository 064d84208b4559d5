/-
  TopMany: runs, part 10.
-/
import Derived.Test.YtoeeackjlclneaaGreatDoorEvM7
namespace Go.Proofs.YtoeeackjlclneaaGreatDoor
set_option linter.unusedVariables false

theorem rK_12_8_e : tmR (vmK 12 8 0 0) (.vs []) = .v (.vb true) .e 0 := by kernel_rfl
theorem rK_13_7_e : tmR (vmK 13 7 0 0) (.vs []) = .v (.vb true) .e 0 := by kernel_rfl
theorem rK_9_8_e : tmR (vmK 9 8 0 0) (.vs []) = .v (.vb true) .e 0 := by kernel_rfl
theorem rK_13_5_e : tmR (vmK 13 5 0 0) (.vs []) = .v (.vb true) .e 0 := by kernel_rfl
theorem rK_10_6_e : tmR (vmK 10 6 0 0) (.vs []) = .v (.vb true) .e 0 := by kernel_rfl
theorem rK_10_5_e : tmR (vmK 10 5 0 0) (.vs []) = .v (.vb true) .e 0 := by kernel_rfl
theorem rK_14_3_e : tmR (vmK 14 3 0 0) (.vs []) = .v (.vb true) .e 0 := by kernel_rfl
theorem rK_14_2_e : tmR (vmK 14 2 0 0) (.vs []) = .v (.vb true) .e 0 := by kernel_rfl
theorem rK_9_4_e : tmR (vmK 9 4 0 0) (.vs []) = .v (.vb true) .e 0 := by kernel_rfl
theorem rK_9_3_e : tmR (vmK 9 3 0 0) (.vs []) = .v (.vb true) .e 0 := by kernel_rfl
theorem rK_6_4_e : tmR (vmK 6 4 0 0) (.vs []) = .v (.vb true) .e 0 := by kernel_rfl
theorem rK_11_1_e : tmR (vmK 11 1 0 0) (.vs []) = .v (.vb true) .e 0 := by kernel_rfl
theorem rK_10_1_e : tmR (vmK 10 1 0 0) (.vs []) = .v (.vb true) .e 0 := by kernel_rfl
theorem rK_7_1_e : tmR (vmK 7 1 0 0) (.vs []) = .v (.vb true) .e 0 := by kernel_rfl
theorem rK_3_2_e : tmR (vmK 3 2 0 0) (.vs []) = .v (.vb true) .e 0 := by kernel_rfl
end Go.Proofs.YtoeeackjlclneaaGreatDoor
