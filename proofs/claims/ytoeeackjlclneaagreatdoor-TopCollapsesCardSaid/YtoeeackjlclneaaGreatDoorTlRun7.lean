/-
  TopCollapses: runs, part 7.
-/
import Derived.Test.YtoeeackjlclneaaGreatDoorEvC8
namespace Go.Proofs.YtoeeackjlclneaaGreatDoor
set_option linter.unusedVariables false

theorem r18_3_8_t : tlR (vlA 18 3 8 1 3000) (.vy 0) = .v (.vb true) .e 0 := by kernel_rfl
theorem r14_5_10_t : tlR (vlA 14 5 10 1 3000) (.vy 0) = .v (.vb true) .e 0 := by kernel_rfl
theorem r13_6_10_t : tlR (vlA 13 6 10 1 3000) (.vy 0) = .v (.vb true) .e 0 := by kernel_rfl
theorem r12_6_10_t : tlR (vlA 12 6 10 1 3000) (.vy 0) = .v (.vb true) .e 0 := by kernel_rfl
theorem r15_7_11_e : tlR (vlA 15 7 11 0 0) (.vs []) = .v (.vb true) .e 0 := by kernel_rfl
theorem r10_7_11_t : tlR (vlA 10 7 11 1 3000) (.vy 0) = .v (.vb true) .e 0 := by kernel_rfl
theorem r13_2_7_e : tlR (vlA 13 2 7 0 0) (.vs []) = .v (.vb true) .e 0 := by kernel_rfl
theorem r7_7_11_t : tlR (vlA 7 7 11 1 3000) (.vy 0) = .v (.vb true) .e 0 := by kernel_rfl
theorem r7_6_10_t : tlR (vlA 7 6 10 1 3000) (.vy 0) = .v (.vb true) .e 0 := by kernel_rfl
theorem r6_6_10_t : tlR (vlA 6 6 10 1 3000) (.vy 0) = .v (.vb true) .e 0 := by kernel_rfl
theorem r7_3_8_e : tlR (vlA 7 3 8 0 0) (.vs []) = .v (.vb true) .e 0 := by kernel_rfl
theorem r6_5_10_e : tlR (vlA 6 5 10 0 0) (.vs []) = .v (.vb true) .e 0 := by kernel_rfl
theorem r4_3_8_e : tlR (vlA 4 3 8 0 0) (.vs []) = .v (.vb true) .e 0 := by kernel_rfl
theorem r3_5_10_e : tlR (vlA 3 5 10 0 0) (.vs []) = .v (.vb true) .e 0 := by kernel_rfl
theorem r2_3_8_e : tlR (vlA 2 3 8 0 0) (.vs []) = .v (.vb true) .e 0 := by kernel_rfl
end Go.Proofs.YtoeeackjlclneaaGreatDoor
