/-
  TopCollapses: runs, part 11.
-/
import Derived.Test.YtoeeackjlclneaaGreatDoorEvC8
namespace Go.Proofs.YtoeeackjlclneaaGreatDoor
set_option linter.unusedVariables false

theorem r17_7_11_t : tlR (vlA 17 7 11 1 3000) (.vy 0) = .v (.vb true) .e 0 := by kernel_rfl
theorem r16_2_7_t : tlR (vlA 16 2 7 1 3000) (.vy 0) = .v (.vb true) .e 0 := by kernel_rfl
theorem r17_7_11_e : tlR (vlA 17 7 11 0 0) (.vs []) = .v (.vb true) .e 0 := by kernel_rfl
theorem r12_3_8_t : tlR (vlA 12 3 8 1 3000) (.vy 0) = .v (.vb true) .e 0 := by kernel_rfl
theorem r15_5_10_e : tlR (vlA 15 5 10 0 0) (.vs []) = .v (.vb true) .e 0 := by kernel_rfl
theorem r10_5_10_t : tlR (vlA 10 5 10 1 3000) (.vy 0) = .v (.vb true) .e 0 := by kernel_rfl
theorem r9_6_10_t : tlR (vlA 9 6 10 1 3000) (.vy 0) = .v (.vb true) .e 0 := by kernel_rfl
theorem r11_6_10_e : tlR (vlA 11 6 10 0 0) (.vs []) = .v (.vb true) .e 0 := by kernel_rfl
theorem r10_6_10_e : tlR (vlA 10 6 10 0 0) (.vs []) = .v (.vb true) .e 0 := by kernel_rfl
theorem r8_7_11_e : tlR (vlA 8 7 11 0 0) (.vs []) = .v (.vb true) .e 0 := by kernel_rfl
theorem r5_6_10_t : tlR (vlA 5 6 10 1 3000) (.vy 0) = .v (.vb true) .e 0 := by kernel_rfl
theorem r6_2_7_e : tlR (vlA 6 2 7 0 0) (.vs []) = .v (.vb true) .e 0 := by kernel_rfl
theorem r2_7_11_t : tlR (vlA 2 7 11 1 3000) (.vy 0) = .v (.vb true) .e 0 := by kernel_rfl
theorem r2_6_10_t : tlR (vlA 2 6 10 1 3000) (.vy 0) = .v (.vb true) .e 0 := by kernel_rfl
theorem r1_6_10_e : tlR (vlA 1 6 10 0 0) (.vs []) = .v (.vb true) .e 0 := by kernel_rfl
end Go.Proofs.YtoeeackjlclneaaGreatDoor
