/-
  TopCollapses: runs, part 15.
-/
import Derived.Test.YtoeeackjlclneaaGreatDoorEvC8
namespace Go.Proofs.YtoeeackjlclneaaGreatDoor
set_option linter.unusedVariables false

theorem r17_5_10_t : tlR (vlA 17 5 10 1 3000) (.vy 0) = .v (.vb true) .e 0 := by kernel_rfl
theorem r15_6_10_t : tlR (vlA 15 6 10 1 3000) (.vy 0) = .v (.vb true) .e 0 := by kernel_rfl
theorem r13_2_7_t : tlR (vlA 13 2 7 1 3000) (.vy 0) = .v (.vb true) .e 0 := by kernel_rfl
theorem r16_7_11_e : tlR (vlA 16 7 11 0 0) (.vs []) = .v (.vb true) .e 0 := by kernel_rfl
theorem r16_3_8_e : tlR (vlA 16 3 8 0 0) (.vs []) = .v (.vb true) .e 0 := by kernel_rfl
theorem r10_2_7_t : tlR (vlA 10 2 7 1 3000) (.vy 0) = .v (.vb true) .e 0 := by kernel_rfl
theorem r9_3_8_t : tlR (vlA 9 3 8 1 3000) (.vy 0) = .v (.vb true) .e 0 := by kernel_rfl
theorem r11_3_8_e : tlR (vlA 11 3 8 0 0) (.vs []) = .v (.vb true) .e 0 := by kernel_rfl
theorem r10_3_8_e : tlR (vlA 10 3 8 0 0) (.vs []) = .v (.vb true) .e 0 := by kernel_rfl
theorem r8_5_10_e : tlR (vlA 8 5 10 0 0) (.vs []) = .v (.vb true) .e 0 := by kernel_rfl
theorem r5_3_8_t : tlR (vlA 5 3 8 1 3000) (.vy 0) = .v (.vb true) .e 0 := by kernel_rfl
theorem r5_6_10_e : tlR (vlA 5 6 10 0 0) (.vs []) = .v (.vb true) .e 0 := by kernel_rfl
theorem r3_7_11_t : tlR (vlA 3 7 11 1 3000) (.vy 0) = .v (.vb true) .e 0 := by kernel_rfl
theorem r3_7_11_e : tlR (vlA 3 7 11 0 0) (.vs []) = .v (.vb true) .e 0 := by kernel_rfl
theorem r2_6_10_e : tlR (vlA 2 6 10 0 0) (.vs []) = .v (.vb true) .e 0 := by kernel_rfl
end Go.Proofs.YtoeeackjlclneaaGreatDoor
