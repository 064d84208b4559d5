/-
  TopCollapses: runs, part 6.
-/
import Derived.Test.YtoeeackjlclneaaGreatDoorEvC8
namespace Go.Proofs.YtoeeackjlclneaaGreatDoor
set_option linter.unusedVariables false

theorem r18_4_9_t : tlR (vlA 18 4 9 1 3000) (.vy 0) = .v (.vb true) .e 0 := by kernel_rfl
theorem r14_5_9_t : tlR (vlA 14 5 9 1 3000) (.vy 0) = .v (.vb true) .e 0 := by kernel_rfl
theorem r13_6_11_t : tlR (vlA 13 6 11 1 3000) (.vy 0) = .v (.vb true) .e 0 := by kernel_rfl
theorem r12_6_11_t : tlR (vlA 12 6 11 1 3000) (.vy 0) = .v (.vb true) .e 0 := by kernel_rfl
theorem r11_1_7_t : tlR (vlA 11 1 7 1 3000) (.vy 0) = .v (.vb true) .e 0 := by kernel_rfl
theorem r13_6_11_e : tlR (vlA 13 6 11 0 0) (.vs []) = .v (.vb true) .e 0 := by kernel_rfl
theorem r13_4_9_e : tlR (vlA 13 4 9 0 0) (.vs []) = .v (.vb true) .e 0 := by kernel_rfl
theorem r8_2_8_t : tlR (vlA 8 2 8 1 3000) (.vy 0) = .v (.vb true) .e 0 := by kernel_rfl
theorem r9_6_11_e : tlR (vlA 9 6 11 0 0) (.vs []) = .v (.vb true) .e 0 := by kernel_rfl
theorem r9_2_8_e : tlR (vlA 9 2 8 0 0) (.vs []) = .v (.vb true) .e 0 := by kernel_rfl
theorem r7_6_11_e : tlR (vlA 7 6 11 0 0) (.vs []) = .v (.vb true) .e 0 := by kernel_rfl
theorem r4_4_9_t : tlR (vlA 4 4 9 1 3000) (.vy 0) = .v (.vb true) .e 0 := by kernel_rfl
theorem r3_1_7_t : tlR (vlA 3 1 7 1 3000) (.vy 0) = .v (.vb true) .e 0 := by kernel_rfl
theorem r1_4_9_t : tlR (vlA 1 4 9 1 3000) (.vy 0) = .v (.vb true) .e 0 := by kernel_rfl
theorem r2_6_11_e : tlR (vlA 2 6 11 0 0) (.vs []) = .v (.vb true) .e 0 := by kernel_rfl
end Go.Proofs.YtoeeackjlclneaaGreatDoor
