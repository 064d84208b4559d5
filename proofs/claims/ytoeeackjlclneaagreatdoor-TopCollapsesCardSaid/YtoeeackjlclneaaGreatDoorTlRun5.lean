/-
  TopCollapses: runs, part 5.
-/
import Derived.Test.YtoeeackjlclneaaGreatDoorEvC8
namespace Go.Proofs.YtoeeackjlclneaaGreatDoor
set_option linter.unusedVariables false

theorem r18_5_10_t : tlR (vlA 18 5 10 1 3000) (.vy 0) = .v (.vb true) .e 0 := by kernel_rfl
theorem r14_6_10_t : tlR (vlA 14 6 10 1 3000) (.vy 0) = .v (.vb true) .e 0 := by kernel_rfl
theorem r13_7_11_t : tlR (vlA 13 7 11 1 3000) (.vy 0) = .v (.vb true) .e 0 := by kernel_rfl
theorem r12_7_11_t : tlR (vlA 12 7 11 1 3000) (.vy 0) = .v (.vb true) .e 0 := by kernel_rfl
theorem r11_2_7_t : tlR (vlA 11 2 7 1 3000) (.vy 0) = .v (.vb true) .e 0 := by kernel_rfl
theorem r13_7_11_e : tlR (vlA 13 7 11 0 0) (.vs []) = .v (.vb true) .e 0 := by kernel_rfl
theorem r13_5_10_e : tlR (vlA 13 5 10 0 0) (.vs []) = .v (.vb true) .e 0 := by kernel_rfl
theorem r8_3_8_t : tlR (vlA 8 3 8 1 3000) (.vy 0) = .v (.vb true) .e 0 := by kernel_rfl
theorem r9_7_11_e : tlR (vlA 9 7 11 0 0) (.vs []) = .v (.vb true) .e 0 := by kernel_rfl
theorem r9_3_8_e : tlR (vlA 9 3 8 0 0) (.vs []) = .v (.vb true) .e 0 := by kernel_rfl
theorem r7_7_11_e : tlR (vlA 7 7 11 0 0) (.vs []) = .v (.vb true) .e 0 := by kernel_rfl
theorem r4_5_10_t : tlR (vlA 4 5 10 1 3000) (.vy 0) = .v (.vb true) .e 0 := by kernel_rfl
theorem r3_2_7_t : tlR (vlA 3 2 7 1 3000) (.vy 0) = .v (.vb true) .e 0 := by kernel_rfl
theorem r1_5_10_t : tlR (vlA 1 5 10 1 3000) (.vy 0) = .v (.vb true) .e 0 := by kernel_rfl
theorem r2_7_11_e : tlR (vlA 2 7 11 0 0) (.vs []) = .v (.vb true) .e 0 := by kernel_rfl
end Go.Proofs.YtoeeackjlclneaaGreatDoor
