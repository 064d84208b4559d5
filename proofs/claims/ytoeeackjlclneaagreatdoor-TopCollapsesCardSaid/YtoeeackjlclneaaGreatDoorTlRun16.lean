/-
  TopCollapses: runs, part 16.
-/
import Derived.Test.YtoeeackjlclneaaGreatDoorEvC8
namespace Go.Proofs.YtoeeackjlclneaaGreatDoor
set_option linter.unusedVariables false

theorem r17_4_9_t : tlR (vlA 17 4 9 1 3000) (.vy 0) = .v (.vb true) .e 0 := by kernel_rfl
theorem r15_5_9_t : tlR (vlA 15 5 9 1 3000) (.vy 0) = .v (.vb true) .e 0 := by kernel_rfl
theorem r13_1_7_t : tlR (vlA 13 1 7 1 3000) (.vy 0) = .v (.vb true) .e 0 := by kernel_rfl
theorem r16_6_11_e : tlR (vlA 16 6 11 0 0) (.vs []) = .v (.vb true) .e 0 := by kernel_rfl
theorem r16_2_8_e : tlR (vlA 16 2 8 0 0) (.vs []) = .v (.vb true) .e 0 := by kernel_rfl
theorem r10_1_7_t : tlR (vlA 10 1 7 1 3000) (.vy 0) = .v (.vb true) .e 0 := by kernel_rfl
theorem r9_2_8_t : tlR (vlA 9 2 8 1 3000) (.vy 0) = .v (.vb true) .e 0 := by kernel_rfl
theorem r11_2_8_e : tlR (vlA 11 2 8 0 0) (.vs []) = .v (.vb true) .e 0 := by kernel_rfl
theorem r10_2_8_e : tlR (vlA 10 2 8 0 0) (.vs []) = .v (.vb true) .e 0 := by kernel_rfl
theorem r8_4_9_e : tlR (vlA 8 4 9 0 0) (.vs []) = .v (.vb true) .e 0 := by kernel_rfl
theorem r5_2_8_t : tlR (vlA 5 2 8 1 3000) (.vy 0) = .v (.vb true) .e 0 := by kernel_rfl
theorem r5_5_9_e : tlR (vlA 5 5 9 0 0) (.vs []) = .v (.vb true) .e 0 := by kernel_rfl
theorem r3_6_11_t : tlR (vlA 3 6 11 1 3000) (.vy 0) = .v (.vb true) .e 0 := by kernel_rfl
theorem r3_6_11_e : tlR (vlA 3 6 11 0 0) (.vs []) = .v (.vb true) .e 0 := by kernel_rfl
theorem r2_5_9_e : tlR (vlA 2 5 9 0 0) (.vs []) = .v (.vb true) .e 0 := by kernel_rfl
end Go.Proofs.YtoeeackjlclneaaGreatDoor
