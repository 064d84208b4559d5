/-
  TopCollapses: runs, part 20.
-/
import Derived.Test.YtoeeackjlclneaaGreatDoorEvC8
namespace Go.Proofs.YtoeeackjlclneaaGreatDoor
set_option linter.unusedVariables false

theorem r17_1_7_t : tlR (vlA 17 1 7 1 3000) (.vy 0) = .v (.vb true) .e 0 := by kernel_rfl
theorem r15_2_8_t : tlR (vlA 15 2 8 1 3000) (.vy 0) = .v (.vb true) .e 0 := by kernel_rfl
theorem r18_5_9_e : tlR (vlA 18 5 9 0 0) (.vs []) = .v (.vb true) .e 0 := by kernel_rfl
theorem r17_4_9_e : tlR (vlA 17 4 9 0 0) (.vs []) = .v (.vb true) .e 0 := by kernel_rfl
theorem r11_6_11_t : tlR (vlA 11 6 11 1 3000) (.vy 0) = .v (.vb true) .e 0 := by kernel_rfl
theorem r14_6_11_e : tlR (vlA 14 6 11 0 0) (.vs []) = .v (.vb true) .e 0 := by kernel_rfl
theorem r9_1_7_t : tlR (vlA 9 1 7 1 3000) (.vy 0) = .v (.vb true) .e 0 := by kernel_rfl
theorem r11_1_7_e : tlR (vlA 11 1 7 0 0) (.vs []) = .v (.vb true) .e 0 := by kernel_rfl
theorem r10_1_7_e : tlR (vlA 10 1 7 0 0) (.vs []) = .v (.vb true) .e 0 := by kernel_rfl
theorem r8_2_8_e : tlR (vlA 8 2 8 0 0) (.vs []) = .v (.vb true) .e 0 := by kernel_rfl
theorem r5_1_7_t : tlR (vlA 5 1 7 1 3000) (.vy 0) = .v (.vb true) .e 0 := by kernel_rfl
theorem r5_4_9_e : tlR (vlA 5 4 9 0 0) (.vs []) = .v (.vb true) .e 0 := by kernel_rfl
theorem r3_5_9_t : tlR (vlA 3 5 9 1 3000) (.vy 0) = .v (.vb true) .e 0 := by kernel_rfl
theorem r3_5_9_e : tlR (vlA 3 5 9 0 0) (.vs []) = .v (.vb true) .e 0 := by kernel_rfl
theorem r2_4_9_e : tlR (vlA 2 4 9 0 0) (.vs []) = .v (.vb true) .e 0 := by kernel_rfl
end Go.Proofs.YtoeeackjlclneaaGreatDoor
