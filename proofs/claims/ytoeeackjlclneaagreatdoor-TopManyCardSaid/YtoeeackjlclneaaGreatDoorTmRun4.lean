/-
  TopMany: runs, part 4.
-/
import Derived.Test.YtoeeackjlclneaaGreatDoorEvM7
namespace Go.Proofs.YtoeeackjlclneaaGreatDoor
set_option linter.unusedVariables false

theorem rK_14_8_e : tmR (vmK 14 8 0 0) (.vs []) = .v (.vb true) .e 0 := by kernel_rfl
theorem rK_12_7_e : tmR (vmK 12 7 0 0) (.vs []) = .v (.vb true) .e 0 := by kernel_rfl
theorem rK_15_5_e : tmR (vmK 15 5 0 0) (.vs []) = .v (.vb true) .e 0 := by kernel_rfl
theorem rK_11_6_e : tmR (vmK 11 6 0 0) (.vs []) = .v (.vb true) .e 0 := by kernel_rfl
theorem rK_12_5_e : tmR (vmK 12 5 0 0) (.vs []) = .v (.vb true) .e 0 := by kernel_rfl
theorem rK_13_4_e : tmR (vmK 13 4 0 0) (.vs []) = .v (.vb true) .e 0 := by kernel_rfl
theorem rO_6_e : tmR (vmO 6 6 0 0) (.vs []) = .v (.vb true) .e 0 := by kernel_rfl
theorem rK_8_5_e : tmR (vmK 8 5 0 0) (.vs []) = .v (.vb true) .e 0 := by kernel_rfl
theorem rK_15_1_e : tmR (vmK 15 1 0 0) (.vs []) = .v (.vb true) .e 0 := by kernel_rfl
theorem rO_5_e : tmR (vmO 5 5 0 0) (.vs []) = .v (.vb true) .e 0 := by kernel_rfl
theorem rK_10_2_e : tmR (vmK 10 2 0 0) (.vs []) = .v (.vb true) .e 0 := by kernel_rfl
theorem rK_7_3_e : tmR (vmK 7 3 0 0) (.vs []) = .v (.vb true) .e 0 := by kernel_rfl
theorem rK_9_1_e : tmR (vmK 9 1 0 0) (.vs []) = .v (.vb true) .e 0 := by kernel_rfl
theorem rK_8_1_e : tmR (vmK 8 1 0 0) (.vs []) = .v (.vb true) .e 0 := by kernel_rfl
theorem rO_2_e : tmR (vmO 2 2 0 0) (.vs []) = .v (.vb true) .e 0 := by kernel_rfl
end Go.Proofs.YtoeeackjlclneaaGreatDoor
