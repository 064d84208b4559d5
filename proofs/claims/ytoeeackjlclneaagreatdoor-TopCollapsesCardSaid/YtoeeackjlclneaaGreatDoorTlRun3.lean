/-
  TopCollapses: runs, part 3.
-/
import Derived.Test.YtoeeackjlclneaaGreatDoorEvC8
namespace Go.Proofs.YtoeeackjlclneaaGreatDoor
set_option linter.unusedVariables false

theorem r18_6_10_t : tlR (vlA 18 6 10 1 3000) (.vy 0) = .v (.vb true) .e 0 := by kernel_rfl
theorem r14_7_11_t : tlR (vlA 14 7 11 1 3000) (.vy 0) = .v (.vb true) .e 0 := by kernel_rfl
theorem r14_2_7_t : tlR (vlA 14 2 7 1 3000) (.vy 0) = .v (.vb true) .e 0 := by kernel_rfl
theorem r16_5_10_e : tlR (vlA 16 5 10 0 0) (.vs []) = .v (.vb true) .e 0 := by kernel_rfl
theorem r15_2_7_e : tlR (vlA 15 2 7 0 0) (.vs []) = .v (.vb true) .e 0 := by kernel_rfl
theorem r14_3_8_e : tlR (vlA 14 3 8 0 0) (.vs []) = .v (.vb true) .e 0 := by kernel_rfl
theorem r12_5_10_e : tlR (vlA 12 5 10 0 0) (.vs []) = .v (.vb true) .e 0 := by kernel_rfl
theorem r8_6_10_t : tlR (vlA 8 6 10 1 3000) (.vy 0) = .v (.vb true) .e 0 := by kernel_rfl
theorem r7_3_8_t : tlR (vlA 7 3 8 1 3000) (.vy 0) = .v (.vb true) .e 0 := by kernel_rfl
theorem r6_3_8_t : tlR (vlA 6 3 8 1 3000) (.vy 0) = .v (.vb true) .e 0 := by kernel_rfl
theorem r4_7_11_t : tlR (vlA 4 7 11 1 3000) (.vy 0) = .v (.vb true) .e 0 := by kernel_rfl
theorem r4_2_7_t : tlR (vlA 4 2 7 1 3000) (.vy 0) = .v (.vb true) .e 0 := by kernel_rfl
theorem r4_5_10_e : tlR (vlA 4 5 10 0 0) (.vs []) = .v (.vb true) .e 0 := by kernel_rfl
theorem r2_2_7_t : tlR (vlA 2 2 7 1 3000) (.vy 0) = .v (.vb true) .e 0 := by kernel_rfl
theorem r1_2_7_e : tlR (vlA 1 2 7 0 0) (.vs []) = .v (.vb true) .e 0 := by kernel_rfl
end Go.Proofs.YtoeeackjlclneaaGreatDoor
