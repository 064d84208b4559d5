/-
  TopMany: runs, part 12.
-/
import Derived.Test.YtoeeackjlclneaaGreatDoorEvM7
namespace Go.Proofs.YtoeeackjlclneaaGreatDoor
set_option linter.unusedVariables false

theorem rK_14_7_e : tmR (vmK 14 7 0 0) (.vs []) = .v (.vb true) .e 0 := by kernel_rfl
theorem rK_11_8_e : tmR (vmK 11 8 0 0) (.vs []) = .v (.vb true) .e 0 := by kernel_rfl
theorem rK_11_7_e : tmR (vmK 11 7 0 0) (.vs []) = .v (.vb true) .e 0 := by kernel_rfl
theorem rK_9_7_e : tmR (vmK 9 7 0 0) (.vs []) = .v (.vb true) .e 0 := by kernel_rfl
theorem rO_7_e : tmR (vmO 7 7 0 0) (.vs []) = .v (.vb true) .e 0 := by kernel_rfl
theorem rK_15_3_e : tmR (vmK 15 3 0 0) (.vs []) = .v (.vb true) .e 0 := by kernel_rfl
theorem rK_9_5_e : tmR (vmK 9 5 0 0) (.vs []) = .v (.vb true) .e 0 := by kernel_rfl
theorem rK_12_3_e : tmR (vmK 12 3 0 0) (.vs []) = .v (.vb true) .e 0 := by kernel_rfl
theorem rK_6_5_e : tmR (vmK 6 5 0 0) (.vs []) = .v (.vb true) .e 0 := by kernel_rfl
theorem rK_10_3_e : tmR (vmK 10 3 0 0) (.vs []) = .v (.vb true) .e 0 := by kernel_rfl
theorem rK_5_4_e : tmR (vmK 5 4 0 0) (.vs []) = .v (.vb true) .e 0 := by kernel_rfl
theorem rK_12_1_e : tmR (vmK 12 1 0 0) (.vs []) = .v (.vb true) .e 0 := by kernel_rfl
theorem rK_4_3_e : tmR (vmK 4 3 0 0) (.vs []) = .v (.vb true) .e 0 := by kernel_rfl
theorem rK_6_2_e : tmR (vmK 6 2 0 0) (.vs []) = .v (.vb true) .e 0 := by kernel_rfl
theorem rK_3_1_e : tmR (vmK 3 1 0 0) (.vs []) = .v (.vb true) .e 0 := by kernel_rfl
theorem rK_2_1_e : tmR (vmK 2 1 0 0) (.vs []) = .v (.vb true) .e 0 := by kernel_rfl
end Go.Proofs.YtoeeackjlclneaaGreatDoor
