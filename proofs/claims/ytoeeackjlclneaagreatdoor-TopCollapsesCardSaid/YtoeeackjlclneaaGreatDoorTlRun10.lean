/-
  TopCollapses: runs, part 10.
-/
import Derived.Test.YtoeeackjlclneaaGreatDoorEvC8
namespace Go.Proofs.YtoeeackjlclneaaGreatDoor
set_option linter.unusedVariables false

theorem r18_1_7_t : tlR (vlA 18 1 7 1 3000) (.vy 0) = .v (.vb true) .e 0 := by kernel_rfl
theorem r14_2_8_t : tlR (vlA 14 2 8 1 3000) (.vy 0) = .v (.vb true) .e 0 := by kernel_rfl
theorem r13_4_9_t : tlR (vlA 13 4 9 1 3000) (.vy 0) = .v (.vb true) .e 0 := by kernel_rfl
theorem r12_4_9_t : tlR (vlA 12 4 9 1 3000) (.vy 0) = .v (.vb true) .e 0 := by kernel_rfl
theorem r15_5_9_e : tlR (vlA 15 5 9 0 0) (.vs []) = .v (.vb true) .e 0 := by kernel_rfl
theorem r10_5_9_t : tlR (vlA 10 5 9 1 3000) (.vy 0) = .v (.vb true) .e 0 := by kernel_rfl
theorem r9_6_11_t : tlR (vlA 9 6 11 1 3000) (.vy 0) = .v (.vb true) .e 0 := by kernel_rfl
theorem r11_6_11_e : tlR (vlA 11 6 11 0 0) (.vs []) = .v (.vb true) .e 0 := by kernel_rfl
theorem r10_6_11_e : tlR (vlA 10 6 11 0 0) (.vs []) = .v (.vb true) .e 0 := by kernel_rfl
theorem r6_1_7_t : tlR (vlA 6 1 7 1 3000) (.vy 0) = .v (.vb true) .e 0 := by kernel_rfl
theorem r4_5_9_t : tlR (vlA 4 5 9 1 3000) (.vy 0) = .v (.vb true) .e 0 := by kernel_rfl
theorem r6_6_11_e : tlR (vlA 6 6 11 0 0) (.vs []) = .v (.vb true) .e 0 := by kernel_rfl
theorem r3_2_8_t : tlR (vlA 3 2 8 1 3000) (.vy 0) = .v (.vb true) .e 0 := by kernel_rfl
theorem r1_5_9_t : tlR (vlA 1 5 9 1 3000) (.vy 0) = .v (.vb true) .e 0 := by kernel_rfl
theorem r1_1_7_t : tlR (vlA 1 1 7 1 3000) (.vy 0) = .v (.vb true) .e 0 := by kernel_rfl
end Go.Proofs.YtoeeackjlclneaaGreatDoor
