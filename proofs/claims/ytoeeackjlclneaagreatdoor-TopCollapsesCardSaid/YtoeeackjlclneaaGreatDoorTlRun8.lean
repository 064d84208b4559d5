/-
  TopCollapses: runs, part 8.
-/
import Derived.Test.YtoeeackjlclneaaGreatDoorEvC8
namespace Go.Proofs.YtoeeackjlclneaaGreatDoor
set_option linter.unusedVariables false

theorem r18_2_8_t : tlR (vlA 18 2 8 1 3000) (.vy 0) = .v (.vb true) .e 0 := by kernel_rfl
theorem r14_4_9_t : tlR (vlA 14 4 9 1 3000) (.vy 0) = .v (.vb true) .e 0 := by kernel_rfl
theorem r13_5_9_t : tlR (vlA 13 5 9 1 3000) (.vy 0) = .v (.vb true) .e 0 := by kernel_rfl
theorem r12_5_9_t : tlR (vlA 12 5 9 1 3000) (.vy 0) = .v (.vb true) .e 0 := by kernel_rfl
theorem r15_6_11_e : tlR (vlA 15 6 11 0 0) (.vs []) = .v (.vb true) .e 0 := by kernel_rfl
theorem r10_6_11_t : tlR (vlA 10 6 11 1 3000) (.vy 0) = .v (.vb true) .e 0 := by kernel_rfl
theorem r13_1_7_e : tlR (vlA 13 1 7 0 0) (.vs []) = .v (.vb true) .e 0 := by kernel_rfl
theorem r7_6_11_t : tlR (vlA 7 6 11 1 3000) (.vy 0) = .v (.vb true) .e 0 := by kernel_rfl
theorem r7_5_9_t : tlR (vlA 7 5 9 1 3000) (.vy 0) = .v (.vb true) .e 0 := by kernel_rfl
theorem r6_5_9_t : tlR (vlA 6 5 9 1 3000) (.vy 0) = .v (.vb true) .e 0 := by kernel_rfl
theorem r7_2_8_e : tlR (vlA 7 2 8 0 0) (.vs []) = .v (.vb true) .e 0 := by kernel_rfl
theorem r6_4_9_e : tlR (vlA 6 4 9 0 0) (.vs []) = .v (.vb true) .e 0 := by kernel_rfl
theorem r4_2_8_e : tlR (vlA 4 2 8 0 0) (.vs []) = .v (.vb true) .e 0 := by kernel_rfl
theorem r3_4_9_e : tlR (vlA 3 4 9 0 0) (.vs []) = .v (.vb true) .e 0 := by kernel_rfl
theorem r2_2_8_e : tlR (vlA 2 2 8 0 0) (.vs []) = .v (.vb true) .e 0 := by kernel_rfl
end Go.Proofs.YtoeeackjlclneaaGreatDoor
