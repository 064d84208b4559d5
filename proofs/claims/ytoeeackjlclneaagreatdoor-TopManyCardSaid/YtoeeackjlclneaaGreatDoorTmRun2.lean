/-
  TopMany: runs, part 2.
-/
import Derived.Test.YtoeeackjlclneaaGreatDoorEvM7
namespace Go.Proofs.YtoeeackjlclneaaGreatDoor
set_option linter.unusedVariables false

theorem rK_15_8_e : tmR (vmK 15 8 0 0) (.vs []) = .v (.vb true) .e 0 := by kernel_rfl
theorem rK_14_6_e : tmR (vmK 14 6 0 0) (.vs []) = .v (.vb true) .e 0 := by kernel_rfl
theorem rK_10_7_e : tmR (vmK 10 7 0 0) (.vs []) = .v (.vb true) .e 0 := by kernel_rfl
theorem rK_8_7_e : tmR (vmK 8 7 0 0) (.vs []) = .v (.vb true) .e 0 := by kernel_rfl
theorem rK_15_4_e : tmR (vmK 15 4 0 0) (.vs []) = .v (.vb true) .e 0 := by kernel_rfl
theorem rK_12_4_e : tmR (vmK 12 4 0 0) (.vs []) = .v (.vb true) .e 0 := by kernel_rfl
theorem rK_7_6_e : tmR (vmK 7 6 0 0) (.vs []) = .v (.vb true) .e 0 := by kernel_rfl
theorem rK_7_5_e : tmR (vmK 7 5 0 0) (.vs []) = .v (.vb true) .e 0 := by kernel_rfl
theorem rK_11_3_e : tmR (vmK 11 3 0 0) (.vs []) = .v (.vb true) .e 0 := by kernel_rfl
theorem rK_14_1_e : tmR (vmK 14 1 0 0) (.vs []) = .v (.vb true) .e 0 := by kernel_rfl
theorem rK_11_2_e : tmR (vmK 11 2 0 0) (.vs []) = .v (.vb true) .e 0 := by kernel_rfl
theorem rK_6_3_e : tmR (vmK 6 3 0 0) (.vs []) = .v (.vb true) .e 0 := by kernel_rfl
theorem rK_8_2_e : tmR (vmK 8 2 0 0) (.vs []) = .v (.vb true) .e 0 := by kernel_rfl
theorem rK_4_2_e : tmR (vmK 4 2 0 0) (.vs []) = .v (.vb true) .e 0 := by kernel_rfl
theorem rK_6_1_e : tmR (vmK 6 1 0 0) (.vs []) = .v (.vb true) .e 0 := by kernel_rfl
end Go.Proofs.YtoeeackjlclneaaGreatDoor
