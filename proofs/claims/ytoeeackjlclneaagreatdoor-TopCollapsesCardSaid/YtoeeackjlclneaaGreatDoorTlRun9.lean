/-
  TopCollapses: runs, part 9.
-/
import Derived.Test.YtoeeackjlclneaaGreatDoorEvC8
namespace Go.Proofs.YtoeeackjlclneaaGreatDoor
set_option linter.unusedVariables false

theorem r18_2_7_t : tlR (vlA 18 2 7 1 3000) (.vy 0) = .v (.vb true) .e 0 := by kernel_rfl
theorem r14_3_8_t : tlR (vlA 14 3 8 1 3000) (.vy 0) = .v (.vb true) .e 0 := by kernel_rfl
theorem r13_5_10_t : tlR (vlA 13 5 10 1 3000) (.vy 0) = .v (.vb true) .e 0 := by kernel_rfl
theorem r12_5_10_t : tlR (vlA 12 5 10 1 3000) (.vy 0) = .v (.vb true) .e 0 := by kernel_rfl
theorem r15_6_10_e : tlR (vlA 15 6 10 0 0) (.vs []) = .v (.vb true) .e 0 := by kernel_rfl
theorem r10_6_10_t : tlR (vlA 10 6 10 1 3000) (.vy 0) = .v (.vb true) .e 0 := by kernel_rfl
theorem r9_7_11_t : tlR (vlA 9 7 11 1 3000) (.vy 0) = .v (.vb true) .e 0 := by kernel_rfl
theorem r11_7_11_e : tlR (vlA 11 7 11 0 0) (.vs []) = .v (.vb true) .e 0 := by kernel_rfl
theorem r10_7_11_e : tlR (vlA 10 7 11 0 0) (.vs []) = .v (.vb true) .e 0 := by kernel_rfl
theorem r6_2_7_t : tlR (vlA 6 2 7 1 3000) (.vy 0) = .v (.vb true) .e 0 := by kernel_rfl
theorem r4_6_10_t : tlR (vlA 4 6 10 1 3000) (.vy 0) = .v (.vb true) .e 0 := by kernel_rfl
theorem r6_7_11_e : tlR (vlA 6 7 11 0 0) (.vs []) = .v (.vb true) .e 0 := by kernel_rfl
theorem r3_3_8_t : tlR (vlA 3 3 8 1 3000) (.vy 0) = .v (.vb true) .e 0 := by kernel_rfl
theorem r1_6_10_t : tlR (vlA 1 6 10 1 3000) (.vy 0) = .v (.vb true) .e 0 := by kernel_rfl
theorem r1_2_7_t : tlR (vlA 1 2 7 1 3000) (.vy 0) = .v (.vb true) .e 0 := by kernel_rfl
end Go.Proofs.YtoeeackjlclneaaGreatDoor
