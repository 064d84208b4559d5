/-
  TopCollapses: runs, part 12.
-/
import Derived.Test.YtoeeackjlclneaaGreatDoorEvC8
namespace Go.Proofs.YtoeeackjlclneaaGreatDoor
set_option linter.unusedVariables false

theorem r17_6_11_t : tlR (vlA 17 6 11 1 3000) (.vy 0) = .v (.vb true) .e 0 := by kernel_rfl
theorem r16_1_7_t : tlR (vlA 16 1 7 1 3000) (.vy 0) = .v (.vb true) .e 0 := by kernel_rfl
theorem r17_6_11_e : tlR (vlA 17 6 11 0 0) (.vs []) = .v (.vb true) .e 0 := by kernel_rfl
theorem r12_2_8_t : tlR (vlA 12 2 8 1 3000) (.vy 0) = .v (.vb true) .e 0 := by kernel_rfl
theorem r15_4_9_e : tlR (vlA 15 4 9 0 0) (.vs []) = .v (.vb true) .e 0 := by kernel_rfl
theorem r10_4_9_t : tlR (vlA 10 4 9 1 3000) (.vy 0) = .v (.vb true) .e 0 := by kernel_rfl
theorem r9_5_9_t : tlR (vlA 9 5 9 1 3000) (.vy 0) = .v (.vb true) .e 0 := by kernel_rfl
theorem r11_5_9_e : tlR (vlA 11 5 9 0 0) (.vs []) = .v (.vb true) .e 0 := by kernel_rfl
theorem r10_5_9_e : tlR (vlA 10 5 9 0 0) (.vs []) = .v (.vb true) .e 0 := by kernel_rfl
theorem r8_6_11_e : tlR (vlA 8 6 11 0 0) (.vs []) = .v (.vb true) .e 0 := by kernel_rfl
theorem r5_5_9_t : tlR (vlA 5 5 9 1 3000) (.vy 0) = .v (.vb true) .e 0 := by kernel_rfl
theorem r6_1_7_e : tlR (vlA 6 1 7 0 0) (.vs []) = .v (.vb true) .e 0 := by kernel_rfl
theorem r2_6_11_t : tlR (vlA 2 6 11 1 3000) (.vy 0) = .v (.vb true) .e 0 := by kernel_rfl
theorem r2_5_9_t : tlR (vlA 2 5 9 1 3000) (.vy 0) = .v (.vb true) .e 0 := by kernel_rfl
theorem r1_5_9_e : tlR (vlA 1 5 9 0 0) (.vs []) = .v (.vb true) .e 0 := by kernel_rfl
end Go.Proofs.YtoeeackjlclneaaGreatDoor
