/-
  TopCollapses: runs, part 17.
-/
import Derived.Test.YtoeeackjlclneaaGreatDoorEvC8
namespace Go.Proofs.YtoeeackjlclneaaGreatDoor
set_option linter.unusedVariables false

theorem r17_3_8_t : tlR (vlA 17 3 8 1 3000) (.vy 0) = .v (.vb true) .e 0 := by kernel_rfl
theorem r15_5_10_t : tlR (vlA 15 5 10 1 3000) (.vy 0) = .v (.vb true) .e 0 := by kernel_rfl
theorem r18_7_11_e : tlR (vlA 18 7 11 0 0) (.vs []) = .v (.vb true) .e 0 := by kernel_rfl
theorem r17_6_10_e : tlR (vlA 17 6 10 0 0) (.vs []) = .v (.vb true) .e 0 := by kernel_rfl
theorem r16_2_7_e : tlR (vlA 16 2 7 0 0) (.vs []) = .v (.vb true) .e 0 := by kernel_rfl
theorem r13_6_10_e : tlR (vlA 13 6 10 0 0) (.vs []) = .v (.vb true) .e 0 := by kernel_rfl
theorem r13_3_8_e : tlR (vlA 13 3 8 0 0) (.vs []) = .v (.vb true) .e 0 := by kernel_rfl
theorem r8_2_7_t : tlR (vlA 8 2 7 1 3000) (.vy 0) = .v (.vb true) .e 0 := by kernel_rfl
theorem r9_6_10_e : tlR (vlA 9 6 10 0 0) (.vs []) = .v (.vb true) .e 0 := by kernel_rfl
theorem r9_2_7_e : tlR (vlA 9 2 7 0 0) (.vs []) = .v (.vb true) .e 0 := by kernel_rfl
theorem r7_6_10_e : tlR (vlA 7 6 10 0 0) (.vs []) = .v (.vb true) .e 0 := by kernel_rfl
theorem r4_3_8_t : tlR (vlA 4 3 8 1 3000) (.vy 0) = .v (.vb true) .e 0 := by kernel_rfl
theorem r4_7_11_e : tlR (vlA 4 7 11 0 0) (.vs []) = .v (.vb true) .e 0 := by kernel_rfl
theorem r2_5_10_t : tlR (vlA 2 5 10 1 3000) (.vy 0) = .v (.vb true) .e 0 := by kernel_rfl
theorem r1_5_10_e : tlR (vlA 1 5 10 0 0) (.vs []) = .v (.vb true) .e 0 := by kernel_rfl
end Go.Proofs.YtoeeackjlclneaaGreatDoor
