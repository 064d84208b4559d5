/-
  TopCollapses: runs, part 13.
-/
import Derived.Test.YtoeeackjlclneaaGreatDoorEvC8
namespace Go.Proofs.YtoeeackjlclneaaGreatDoor
set_option linter.unusedVariables false

theorem r17_6_10_t : tlR (vlA 17 6 10 1 3000) (.vy 0) = .v (.vb true) .e 0 := by kernel_rfl
theorem r15_7_11_t : tlR (vlA 15 7 11 1 3000) (.vy 0) = .v (.vb true) .e 0 := by kernel_rfl
theorem r13_3_8_t : tlR (vlA 13 3 8 1 3000) (.vy 0) = .v (.vb true) .e 0 := by kernel_rfl
theorem r12_2_7_t : tlR (vlA 12 2 7 1 3000) (.vy 0) = .v (.vb true) .e 0 := by kernel_rfl
theorem r15_3_8_e : tlR (vlA 15 3 8 0 0) (.vs []) = .v (.vb true) .e 0 := by kernel_rfl
theorem r10_3_8_t : tlR (vlA 10 3 8 1 3000) (.vy 0) = .v (.vb true) .e 0 := by kernel_rfl
theorem r9_5_10_t : tlR (vlA 9 5 10 1 3000) (.vy 0) = .v (.vb true) .e 0 := by kernel_rfl
theorem r11_5_10_e : tlR (vlA 11 5 10 0 0) (.vs []) = .v (.vb true) .e 0 := by kernel_rfl
theorem r10_5_10_e : tlR (vlA 10 5 10 0 0) (.vs []) = .v (.vb true) .e 0 := by kernel_rfl
theorem r8_6_10_e : tlR (vlA 8 6 10 0 0) (.vs []) = .v (.vb true) .e 0 := by kernel_rfl
theorem r5_5_10_t : tlR (vlA 5 5 10 1 3000) (.vy 0) = .v (.vb true) .e 0 := by kernel_rfl
theorem r5_7_11_e : tlR (vlA 5 7 11 0 0) (.vs []) = .v (.vb true) .e 0 := by kernel_rfl
theorem r5_2_7_e : tlR (vlA 5 2 7 0 0) (.vs []) = .v (.vb true) .e 0 := by kernel_rfl
theorem r3_2_7_e : tlR (vlA 3 2 7 0 0) (.vs []) = .v (.vb true) .e 0 := by kernel_rfl
theorem r1_7_11_e : tlR (vlA 1 7 11 0 0) (.vs []) = .v (.vb true) .e 0 := by kernel_rfl
theorem rZ : tlR vlZ (.vy 0) = .v (.vb true) .e 0 := by kernel_rfl
end Go.Proofs.YtoeeackjlclneaaGreatDoor
