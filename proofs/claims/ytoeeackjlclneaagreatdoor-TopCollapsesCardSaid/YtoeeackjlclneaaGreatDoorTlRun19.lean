/-
  TopCollapses: runs, part 19.
-/
import Derived.Test.YtoeeackjlclneaaGreatDoorEvC8
namespace Go.Proofs.YtoeeackjlclneaaGreatDoor
set_option linter.unusedVariables false

theorem r17_2_7_t : tlR (vlA 17 2 7 1 3000) (.vy 0) = .v (.vb true) .e 0 := by kernel_rfl
theorem r15_3_8_t : tlR (vlA 15 3 8 1 3000) (.vy 0) = .v (.vb true) .e 0 := by kernel_rfl
theorem r18_6_10_e : tlR (vlA 18 6 10 0 0) (.vs []) = .v (.vb true) .e 0 := by kernel_rfl
theorem r17_5_10_e : tlR (vlA 17 5 10 0 0) (.vs []) = .v (.vb true) .e 0 := by kernel_rfl
theorem r11_7_11_t : tlR (vlA 11 7 11 1 3000) (.vy 0) = .v (.vb true) .e 0 := by kernel_rfl
theorem r14_7_11_e : tlR (vlA 14 7 11 0 0) (.vs []) = .v (.vb true) .e 0 := by kernel_rfl
theorem r9_2_7_t : tlR (vlA 9 2 7 1 3000) (.vy 0) = .v (.vb true) .e 0 := by kernel_rfl
theorem r11_2_7_e : tlR (vlA 11 2 7 0 0) (.vs []) = .v (.vb true) .e 0 := by kernel_rfl
theorem r10_2_7_e : tlR (vlA 10 2 7 0 0) (.vs []) = .v (.vb true) .e 0 := by kernel_rfl
theorem r8_3_8_e : tlR (vlA 8 3 8 0 0) (.vs []) = .v (.vb true) .e 0 := by kernel_rfl
theorem r5_2_7_t : tlR (vlA 5 2 7 1 3000) (.vy 0) = .v (.vb true) .e 0 := by kernel_rfl
theorem r5_5_10_e : tlR (vlA 5 5 10 0 0) (.vs []) = .v (.vb true) .e 0 := by kernel_rfl
theorem r3_6_10_t : tlR (vlA 3 6 10 1 3000) (.vy 0) = .v (.vb true) .e 0 := by kernel_rfl
theorem r3_6_10_e : tlR (vlA 3 6 10 0 0) (.vs []) = .v (.vb true) .e 0 := by kernel_rfl
theorem r2_5_10_e : tlR (vlA 2 5 10 0 0) (.vs []) = .v (.vb true) .e 0 := by kernel_rfl
end Go.Proofs.YtoeeackjlclneaaGreatDoor
