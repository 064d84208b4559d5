/-
  TopCollapses: runs, part 4.
-/
import Derived.Test.YtoeeackjlclneaaGreatDoorEvC8
namespace Go.Proofs.YtoeeackjlclneaaGreatDoor
set_option linter.unusedVariables false

theorem r18_5_9_t : tlR (vlA 18 5 9 1 3000) (.vy 0) = .v (.vb true) .e 0 := by kernel_rfl
theorem r14_6_11_t : tlR (vlA 14 6 11 1 3000) (.vy 0) = .v (.vb true) .e 0 := by kernel_rfl
theorem r14_1_7_t : tlR (vlA 14 1 7 1 3000) (.vy 0) = .v (.vb true) .e 0 := by kernel_rfl
theorem r16_4_9_e : tlR (vlA 16 4 9 0 0) (.vs []) = .v (.vb true) .e 0 := by kernel_rfl
theorem r15_1_7_e : tlR (vlA 15 1 7 0 0) (.vs []) = .v (.vb true) .e 0 := by kernel_rfl
theorem r14_2_8_e : tlR (vlA 14 2 8 0 0) (.vs []) = .v (.vb true) .e 0 := by kernel_rfl
theorem r12_4_9_e : tlR (vlA 12 4 9 0 0) (.vs []) = .v (.vb true) .e 0 := by kernel_rfl
theorem r8_5_9_t : tlR (vlA 8 5 9 1 3000) (.vy 0) = .v (.vb true) .e 0 := by kernel_rfl
theorem r7_2_8_t : tlR (vlA 7 2 8 1 3000) (.vy 0) = .v (.vb true) .e 0 := by kernel_rfl
theorem r6_2_8_t : tlR (vlA 6 2 8 1 3000) (.vy 0) = .v (.vb true) .e 0 := by kernel_rfl
theorem r4_6_11_t : tlR (vlA 4 6 11 1 3000) (.vy 0) = .v (.vb true) .e 0 := by kernel_rfl
theorem r4_1_7_t : tlR (vlA 4 1 7 1 3000) (.vy 0) = .v (.vb true) .e 0 := by kernel_rfl
theorem r4_4_9_e : tlR (vlA 4 4 9 0 0) (.vs []) = .v (.vb true) .e 0 := by kernel_rfl
theorem r2_1_7_t : tlR (vlA 2 1 7 1 3000) (.vy 0) = .v (.vb true) .e 0 := by kernel_rfl
theorem r1_1_7_e : tlR (vlA 1 1 7 0 0) (.vs []) = .v (.vb true) .e 0 := by kernel_rfl
end Go.Proofs.YtoeeackjlclneaaGreatDoor
