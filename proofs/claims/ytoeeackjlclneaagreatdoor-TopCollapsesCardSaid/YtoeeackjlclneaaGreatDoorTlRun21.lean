/-
  TopCollapses: runs, part 21.
-/
import Derived.Test.YtoeeackjlclneaaGreatDoorEvC8
namespace Go.Proofs.YtoeeackjlclneaaGreatDoor
set_option linter.unusedVariables false

theorem r16_7_11_t : tlR (vlA 16 7 11 1 3000) (.vy 0) = .v (.vb true) .e 0 := by kernel_rfl
theorem r16_5_10_t : tlR (vlA 16 5 10 1 3000) (.vy 0) = .v (.vb true) .e 0 := by kernel_rfl
theorem r18_5_10_e : tlR (vlA 18 5 10 0 0) (.vs []) = .v (.vb true) .e 0 := by kernel_rfl
theorem r17_3_8_e : tlR (vlA 17 3 8 0 0) (.vs []) = .v (.vb true) .e 0 := by kernel_rfl
theorem r11_6_10_t : tlR (vlA 11 6 10 1 3000) (.vy 0) = .v (.vb true) .e 0 := by kernel_rfl
theorem r14_6_10_e : tlR (vlA 14 6 10 0 0) (.vs []) = .v (.vb true) .e 0 := by kernel_rfl
theorem r12_7_11_e : tlR (vlA 12 7 11 0 0) (.vs []) = .v (.vb true) .e 0 := by kernel_rfl
theorem r12_2_7_e : tlR (vlA 12 2 7 0 0) (.vs []) = .v (.vb true) .e 0 := by kernel_rfl
theorem r9_5_10_e : tlR (vlA 9 5 10 0 0) (.vs []) = .v (.vb true) .e 0 := by kernel_rfl
theorem r6_7_11_t : tlR (vlA 6 7 11 1 3000) (.vy 0) = .v (.vb true) .e 0 := by kernel_rfl
theorem r5_7_11_t : tlR (vlA 5 7 11 1 3000) (.vy 0) = .v (.vb true) .e 0 := by kernel_rfl
theorem r6_3_8_e : tlR (vlA 6 3 8 0 0) (.vs []) = .v (.vb true) .e 0 := by kernel_rfl
theorem r4_2_7_e : tlR (vlA 4 2 7 0 0) (.vs []) = .v (.vb true) .e 0 := by kernel_rfl
theorem r3_3_8_e : tlR (vlA 3 3 8 0 0) (.vs []) = .v (.vb true) .e 0 := by kernel_rfl
theorem r2_2_7_e : tlR (vlA 2 2 7 0 0) (.vs []) = .v (.vb true) .e 0 := by kernel_rfl
end Go.Proofs.YtoeeackjlclneaaGreatDoor
