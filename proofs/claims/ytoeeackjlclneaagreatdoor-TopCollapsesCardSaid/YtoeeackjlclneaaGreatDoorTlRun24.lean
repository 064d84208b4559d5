/-
  TopCollapses: runs, part 24.
-/
import Derived.Test.YtoeeackjlclneaaGreatDoorEvC8
namespace Go.Proofs.YtoeeackjlclneaaGreatDoor
set_option linter.unusedVariables false

theorem r16_5_9_t : tlR (vlA 16 5 9 1 3000) (.vy 0) = .v (.vb true) .e 0 := by kernel_rfl
theorem r16_2_8_t : tlR (vlA 16 2 8 1 3000) (.vy 0) = .v (.vb true) .e 0 := by kernel_rfl
theorem r18_2_8_e : tlR (vlA 18 2 8 0 0) (.vs []) = .v (.vb true) .e 0 := by kernel_rfl
theorem r17_1_7_e : tlR (vlA 17 1 7 0 0) (.vs []) = .v (.vb true) .e 0 := by kernel_rfl
theorem r11_4_9_t : tlR (vlA 11 4 9 1 3000) (.vy 0) = .v (.vb true) .e 0 := by kernel_rfl
theorem r14_4_9_e : tlR (vlA 14 4 9 0 0) (.vs []) = .v (.vb true) .e 0 := by kernel_rfl
theorem r12_5_9_e : tlR (vlA 12 5 9 0 0) (.vs []) = .v (.vb true) .e 0 := by kernel_rfl
theorem r8_6_11_t : tlR (vlA 8 6 11 1 3000) (.vy 0) = .v (.vb true) .e 0 := by kernel_rfl
theorem r7_4_9_t : tlR (vlA 7 4 9 1 3000) (.vy 0) = .v (.vb true) .e 0 := by kernel_rfl
theorem r6_4_9_t : tlR (vlA 6 4 9 1 3000) (.vy 0) = .v (.vb true) .e 0 := by kernel_rfl
theorem r7_1_7_e : tlR (vlA 7 1 7 0 0) (.vs []) = .v (.vb true) .e 0 := by kernel_rfl
theorem r5_2_8_e : tlR (vlA 5 2 8 0 0) (.vs []) = .v (.vb true) .e 0 := by kernel_rfl
theorem r3_4_9_t : tlR (vlA 3 4 9 1 3000) (.vy 0) = .v (.vb true) .e 0 := by kernel_rfl
theorem r1_6_11_t : tlR (vlA 1 6 11 1 3000) (.vy 0) = .v (.vb true) .e 0 := by kernel_rfl
theorem r1_2_8_t : tlR (vlA 1 2 8 1 3000) (.vy 0) = .v (.vb true) .e 0 := by kernel_rfl
end Go.Proofs.YtoeeackjlclneaaGreatDoor
