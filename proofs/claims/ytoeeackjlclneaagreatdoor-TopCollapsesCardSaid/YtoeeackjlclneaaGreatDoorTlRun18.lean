/-
  TopCollapses: runs, part 18.
-/
import Derived.Test.YtoeeackjlclneaaGreatDoorEvC8
namespace Go.Proofs.YtoeeackjlclneaaGreatDoor
set_option linter.unusedVariables false

theorem r17_2_8_t : tlR (vlA 17 2 8 1 3000) (.vy 0) = .v (.vb true) .e 0 := by kernel_rfl
theorem r15_4_9_t : tlR (vlA 15 4 9 1 3000) (.vy 0) = .v (.vb true) .e 0 := by kernel_rfl
theorem r18_6_11_e : tlR (vlA 18 6 11 0 0) (.vs []) = .v (.vb true) .e 0 := by kernel_rfl
theorem r17_5_9_e : tlR (vlA 17 5 9 0 0) (.vs []) = .v (.vb true) .e 0 := by kernel_rfl
theorem r16_1_7_e : tlR (vlA 16 1 7 0 0) (.vs []) = .v (.vb true) .e 0 := by kernel_rfl
theorem r13_5_9_e : tlR (vlA 13 5 9 0 0) (.vs []) = .v (.vb true) .e 0 := by kernel_rfl
theorem r13_2_8_e : tlR (vlA 13 2 8 0 0) (.vs []) = .v (.vb true) .e 0 := by kernel_rfl
theorem r8_1_7_t : tlR (vlA 8 1 7 1 3000) (.vy 0) = .v (.vb true) .e 0 := by kernel_rfl
theorem r9_5_9_e : tlR (vlA 9 5 9 0 0) (.vs []) = .v (.vb true) .e 0 := by kernel_rfl
theorem r9_1_7_e : tlR (vlA 9 1 7 0 0) (.vs []) = .v (.vb true) .e 0 := by kernel_rfl
theorem r7_5_9_e : tlR (vlA 7 5 9 0 0) (.vs []) = .v (.vb true) .e 0 := by kernel_rfl
theorem r4_2_8_t : tlR (vlA 4 2 8 1 3000) (.vy 0) = .v (.vb true) .e 0 := by kernel_rfl
theorem r4_6_11_e : tlR (vlA 4 6 11 0 0) (.vs []) = .v (.vb true) .e 0 := by kernel_rfl
theorem r2_4_9_t : tlR (vlA 2 4 9 1 3000) (.vy 0) = .v (.vb true) .e 0 := by kernel_rfl
theorem r1_4_9_e : tlR (vlA 1 4 9 0 0) (.vs []) = .v (.vb true) .e 0 := by kernel_rfl
end Go.Proofs.YtoeeackjlclneaaGreatDoor
