/-
  TopCollapses: runs, part 22.
-/
import Derived.Test.YtoeeackjlclneaaGreatDoorEvC8
namespace Go.Proofs.YtoeeackjlclneaaGreatDoor
set_option linter.unusedVariables false

theorem r16_6_11_t : tlR (vlA 16 6 11 1 3000) (.vy 0) = .v (.vb true) .e 0 := by kernel_rfl
theorem r16_4_9_t : tlR (vlA 16 4 9 1 3000) (.vy 0) = .v (.vb true) .e 0 := by kernel_rfl
theorem r18_4_9_e : tlR (vlA 18 4 9 0 0) (.vs []) = .v (.vb true) .e 0 := by kernel_rfl
theorem r17_2_8_e : tlR (vlA 17 2 8 0 0) (.vs []) = .v (.vb true) .e 0 := by kernel_rfl
theorem r11_5_9_t : tlR (vlA 11 5 9 1 3000) (.vy 0) = .v (.vb true) .e 0 := by kernel_rfl
theorem r14_5_9_e : tlR (vlA 14 5 9 0 0) (.vs []) = .v (.vb true) .e 0 := by kernel_rfl
theorem r12_6_11_e : tlR (vlA 12 6 11 0 0) (.vs []) = .v (.vb true) .e 0 := by kernel_rfl
theorem r12_1_7_e : tlR (vlA 12 1 7 0 0) (.vs []) = .v (.vb true) .e 0 := by kernel_rfl
theorem r9_4_9_e : tlR (vlA 9 4 9 0 0) (.vs []) = .v (.vb true) .e 0 := by kernel_rfl
theorem r6_6_11_t : tlR (vlA 6 6 11 1 3000) (.vy 0) = .v (.vb true) .e 0 := by kernel_rfl
theorem r5_6_11_t : tlR (vlA 5 6 11 1 3000) (.vy 0) = .v (.vb true) .e 0 := by kernel_rfl
theorem r6_2_8_e : tlR (vlA 6 2 8 0 0) (.vs []) = .v (.vb true) .e 0 := by kernel_rfl
theorem r4_1_7_e : tlR (vlA 4 1 7 0 0) (.vs []) = .v (.vb true) .e 0 := by kernel_rfl
theorem r3_2_8_e : tlR (vlA 3 2 8 0 0) (.vs []) = .v (.vb true) .e 0 := by kernel_rfl
theorem r2_1_7_e : tlR (vlA 2 1 7 0 0) (.vs []) = .v (.vb true) .e 0 := by kernel_rfl
end Go.Proofs.YtoeeackjlclneaaGreatDoor
