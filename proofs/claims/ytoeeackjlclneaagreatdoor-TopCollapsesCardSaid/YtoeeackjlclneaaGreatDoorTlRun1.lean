/-
  TopCollapses: runs, part 1.
-/
import Derived.Test.YtoeeackjlclneaaGreatDoorEvC8
namespace Go.Proofs.YtoeeackjlclneaaGreatDoor
set_option linter.unusedVariables false

theorem r18_7_11_t : tlR (vlA 18 7 11 1 3000) (.vy 0) = .v (.vb true) .e 0 := by kernel_rfl
theorem r15_2_7_t : tlR (vlA 15 2 7 1 3000) (.vy 0) = .v (.vb true) .e 0 := by kernel_rfl
theorem r18_2_7_e : tlR (vlA 18 2 7 0 0) (.vs []) = .v (.vb true) .e 0 := by kernel_rfl
theorem r16_6_10_e : tlR (vlA 16 6 10 0 0) (.vs []) = .v (.vb true) .e 0 := by kernel_rfl
theorem r11_3_8_t : tlR (vlA 11 3 8 1 3000) (.vy 0) = .v (.vb true) .e 0 := by kernel_rfl
theorem r14_2_7_e : tlR (vlA 14 2 7 0 0) (.vs []) = .v (.vb true) .e 0 := by kernel_rfl
theorem r12_3_8_e : tlR (vlA 12 3 8 0 0) (.vs []) = .v (.vb true) .e 0 := by kernel_rfl
theorem r8_5_10_t : tlR (vlA 8 5 10 1 3000) (.vy 0) = .v (.vb true) .e 0 := by kernel_rfl
theorem r7_2_7_t : tlR (vlA 7 2 7 1 3000) (.vy 0) = .v (.vb true) .e 0 := by kernel_rfl
theorem r8_2_7_e : tlR (vlA 8 2 7 0 0) (.vs []) = .v (.vb true) .e 0 := by kernel_rfl
theorem r7_5_10_e : tlR (vlA 7 5 10 0 0) (.vs []) = .v (.vb true) .e 0 := by kernel_rfl
theorem r6_6_10_e : tlR (vlA 6 6 10 0 0) (.vs []) = .v (.vb true) .e 0 := by kernel_rfl
theorem r4_6_10_e : tlR (vlA 4 6 10 0 0) (.vs []) = .v (.vb true) .e 0 := by kernel_rfl
theorem r2_3_8_t : tlR (vlA 2 3 8 1 3000) (.vy 0) = .v (.vb true) .e 0 := by kernel_rfl
theorem r1_3_8_e : tlR (vlA 1 3 8 0 0) (.vs []) = .v (.vb true) .e 0 := by kernel_rfl
end Go.Proofs.YtoeeackjlclneaaGreatDoor
