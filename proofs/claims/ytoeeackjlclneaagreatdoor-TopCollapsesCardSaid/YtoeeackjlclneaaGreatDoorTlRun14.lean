/-
  TopCollapses: runs, part 14.
-/
import Derived.Test.YtoeeackjlclneaaGreatDoorEvC8
namespace Go.Proofs.YtoeeackjlclneaaGreatDoor
set_option linter.unusedVariables false

theorem r17_5_9_t : tlR (vlA 17 5 9 1 3000) (.vy 0) = .v (.vb true) .e 0 := by kernel_rfl
theorem r15_6_11_t : tlR (vlA 15 6 11 1 3000) (.vy 0) = .v (.vb true) .e 0 := by kernel_rfl
theorem r13_2_8_t : tlR (vlA 13 2 8 1 3000) (.vy 0) = .v (.vb true) .e 0 := by kernel_rfl
theorem r12_1_7_t : tlR (vlA 12 1 7 1 3000) (.vy 0) = .v (.vb true) .e 0 := by kernel_rfl
theorem r15_2_8_e : tlR (vlA 15 2 8 0 0) (.vs []) = .v (.vb true) .e 0 := by kernel_rfl
theorem r10_2_8_t : tlR (vlA 10 2 8 1 3000) (.vy 0) = .v (.vb true) .e 0 := by kernel_rfl
theorem r9_4_9_t : tlR (vlA 9 4 9 1 3000) (.vy 0) = .v (.vb true) .e 0 := by kernel_rfl
theorem r11_4_9_e : tlR (vlA 11 4 9 0 0) (.vs []) = .v (.vb true) .e 0 := by kernel_rfl
theorem r10_4_9_e : tlR (vlA 10 4 9 0 0) (.vs []) = .v (.vb true) .e 0 := by kernel_rfl
theorem r8_5_9_e : tlR (vlA 8 5 9 0 0) (.vs []) = .v (.vb true) .e 0 := by kernel_rfl
theorem r5_4_9_t : tlR (vlA 5 4 9 1 3000) (.vy 0) = .v (.vb true) .e 0 := by kernel_rfl
theorem r5_6_11_e : tlR (vlA 5 6 11 0 0) (.vs []) = .v (.vb true) .e 0 := by kernel_rfl
theorem r5_1_7_e : tlR (vlA 5 1 7 0 0) (.vs []) = .v (.vb true) .e 0 := by kernel_rfl
theorem r3_1_7_e : tlR (vlA 3 1 7 0 0) (.vs []) = .v (.vb true) .e 0 := by kernel_rfl
theorem r1_6_11_e : tlR (vlA 1 6 11 0 0) (.vs []) = .v (.vb true) .e 0 := by kernel_rfl
end Go.Proofs.YtoeeackjlclneaaGreatDoor
