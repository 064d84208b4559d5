/-
  TopMany: runs, part 8.
-/
import Derived.Test.YtoeeackjlclneaaGreatDoorEvM7
namespace Go.Proofs.YtoeeackjlclneaaGreatDoor
set_option linter.unusedVariables false

theorem rK_15_7_e : tmR (vmK 15 7 0 0) (.vs []) = .v (.vb true) .e 0 := by kernel_rfl
theorem rK_15_6_e : tmR (vmK 15 6 0 0) (.vs []) = .v (.vb true) .e 0 := by kernel_rfl
theorem rK_13_6_e : tmR (vmK 13 6 0 0) (.vs []) = .v (.vb true) .e 0 := by kernel_rfl
theorem rK_12_6_e : tmR (vmK 12 6 0 0) (.vs []) = .v (.vb true) .e 0 := by kernel_rfl
theorem rK_9_6_e : tmR (vmK 9 6 0 0) (.vs []) = .v (.vb true) .e 0 := by kernel_rfl
theorem rK_8_6_e : tmR (vmK 8 6 0 0) (.vs []) = .v (.vb true) .e 0 := by kernel_rfl
theorem rK_11_4_e : tmR (vmK 11 4 0 0) (.vs []) = .v (.vb true) .e 0 := by kernel_rfl
theorem rK_10_4_e : tmR (vmK 10 4 0 0) (.vs []) = .v (.vb true) .e 0 := by kernel_rfl
theorem rK_13_2_e : tmR (vmK 13 2 0 0) (.vs []) = .v (.vb true) .e 0 := by kernel_rfl
theorem rK_7_4_e : tmR (vmK 7 4 0 0) (.vs []) = .v (.vb true) .e 0 := by kernel_rfl
theorem rK_13_1_e : tmR (vmK 13 1 0 0) (.vs []) = .v (.vb true) .e 0 := by kernel_rfl
theorem rO_4_e : tmR (vmO 4 4 0 0) (.vs []) = .v (.vb true) .e 0 := by kernel_rfl
theorem rK_5_3_e : tmR (vmK 5 3 0 0) (.vs []) = .v (.vb true) .e 0 := by kernel_rfl
theorem rK_5_2_e : tmR (vmK 5 2 0 0) (.vs []) = .v (.vb true) .e 0 := by kernel_rfl
theorem rK_5_1_e : tmR (vmK 5 1 0 0) (.vs []) = .v (.vb true) .e 0 := by kernel_rfl
end Go.Proofs.YtoeeackjlclneaaGreatDoor
