/-
  TopCollapses: runs, part 23.
-/
import Derived.Test.YtoeeackjlclneaaGreatDoorEvC8
namespace Go.Proofs.YtoeeackjlclneaaGreatDoor
set_option linter.unusedVariables false

theorem r16_6_10_t : tlR (vlA 16 6 10 1 3000) (.vy 0) = .v (.vb true) .e 0 := by kernel_rfl
theorem r16_3_8_t : tlR (vlA 16 3 8 1 3000) (.vy 0) = .v (.vb true) .e 0 := by kernel_rfl
theorem r18_3_8_e : tlR (vlA 18 3 8 0 0) (.vs []) = .v (.vb true) .e 0 := by kernel_rfl
theorem r17_2_7_e : tlR (vlA 17 2 7 0 0) (.vs []) = .v (.vb true) .e 0 := by kernel_rfl
theorem r11_5_10_t : tlR (vlA 11 5 10 1 3000) (.vy 0) = .v (.vb true) .e 0 := by kernel_rfl
theorem r14_5_10_e : tlR (vlA 14 5 10 0 0) (.vs []) = .v (.vb true) .e 0 := by kernel_rfl
theorem r12_6_10_e : tlR (vlA 12 6 10 0 0) (.vs []) = .v (.vb true) .e 0 := by kernel_rfl
theorem r8_7_11_t : tlR (vlA 8 7 11 1 3000) (.vy 0) = .v (.vb true) .e 0 := by kernel_rfl
theorem r7_5_10_t : tlR (vlA 7 5 10 1 3000) (.vy 0) = .v (.vb true) .e 0 := by kernel_rfl
theorem r6_5_10_t : tlR (vlA 6 5 10 1 3000) (.vy 0) = .v (.vb true) .e 0 := by kernel_rfl
theorem r7_2_7_e : tlR (vlA 7 2 7 0 0) (.vs []) = .v (.vb true) .e 0 := by kernel_rfl
theorem r5_3_8_e : tlR (vlA 5 3 8 0 0) (.vs []) = .v (.vb true) .e 0 := by kernel_rfl
theorem r3_5_10_t : tlR (vlA 3 5 10 1 3000) (.vy 0) = .v (.vb true) .e 0 := by kernel_rfl
theorem r1_7_11_t : tlR (vlA 1 7 11 1 3000) (.vy 0) = .v (.vb true) .e 0 := by kernel_rfl
theorem r1_3_8_t : tlR (vlA 1 3 8 1 3000) (.vy 0) = .v (.vb true) .e 0 := by kernel_rfl
end Go.Proofs.YtoeeackjlclneaaGreatDoor
