/-
  TopCollapses: runs, part 2.
-/
import Derived.Test.YtoeeackjlclneaaGreatDoorEvC8
namespace Go.Proofs.YtoeeackjlclneaaGreatDoor
set_option linter.unusedVariables false

theorem r18_6_11_t : tlR (vlA 18 6 11 1 3000) (.vy 0) = .v (.vb true) .e 0 := by kernel_rfl
theorem r15_1_7_t : tlR (vlA 15 1 7 1 3000) (.vy 0) = .v (.vb true) .e 0 := by kernel_rfl
theorem r18_1_7_e : tlR (vlA 18 1 7 0 0) (.vs []) = .v (.vb true) .e 0 := by kernel_rfl
theorem r16_5_9_e : tlR (vlA 16 5 9 0 0) (.vs []) = .v (.vb true) .e 0 := by kernel_rfl
theorem r11_2_8_t : tlR (vlA 11 2 8 1 3000) (.vy 0) = .v (.vb true) .e 0 := by kernel_rfl
theorem r14_1_7_e : tlR (vlA 14 1 7 0 0) (.vs []) = .v (.vb true) .e 0 := by kernel_rfl
theorem r12_2_8_e : tlR (vlA 12 2 8 0 0) (.vs []) = .v (.vb true) .e 0 := by kernel_rfl
theorem r8_4_9_t : tlR (vlA 8 4 9 1 3000) (.vy 0) = .v (.vb true) .e 0 := by kernel_rfl
theorem r7_1_7_t : tlR (vlA 7 1 7 1 3000) (.vy 0) = .v (.vb true) .e 0 := by kernel_rfl
theorem r8_1_7_e : tlR (vlA 8 1 7 0 0) (.vs []) = .v (.vb true) .e 0 := by kernel_rfl
theorem r7_4_9_e : tlR (vlA 7 4 9 0 0) (.vs []) = .v (.vb true) .e 0 := by kernel_rfl
theorem r6_5_9_e : tlR (vlA 6 5 9 0 0) (.vs []) = .v (.vb true) .e 0 := by kernel_rfl
theorem r4_5_9_e : tlR (vlA 4 5 9 0 0) (.vs []) = .v (.vb true) .e 0 := by kernel_rfl
theorem r2_2_8_t : tlR (vlA 2 2 8 1 3000) (.vy 0) = .v (.vb true) .e 0 := by kernel_rfl
theorem r1_2_8_e : tlR (vlA 1 2 8 0 0) (.vs []) = .v (.vb true) .e 0 := by kernel_rfl
end Go.Proofs.YtoeeackjlclneaaGreatDoor
