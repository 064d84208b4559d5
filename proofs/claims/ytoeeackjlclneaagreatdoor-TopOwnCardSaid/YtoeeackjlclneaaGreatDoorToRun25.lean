/-
  TopOwn: runs, part 25.
-/
import Derived.Test.YtoeeackjlclneaaGreatDoorEvO7
namespace Go.Proofs.YtoeeackjlclneaaGreatDoor
theorem ruj24:Q 10 24:=fun v=>by kernel_rfl
theorem ruj56:Q 10 56:=fun v=>by kernel_rfl
theorem ruj88:Q 10 88:=fun v=>by kernel_rfl
theorem ruj120:Q 10 120:=fun v=>by kernel_rfl
theorem ruj152:Q 10 152:=fun v=>by kernel_rfl
theorem ruj184:Q 10 184:=fun v=>by kernel_rfl
theorem ruj216:Q 10 216:=fun v=>by kernel_rfl
theorem ruj248:Q 10 248:=fun v=>by kernel_rfl
theorem rui24:Q 9 24:=fun v=>by kernel_rfl
theorem rui56:Q 9 56:=fun v=>by kernel_rfl
theorem rui88:Q 9 88:=fun v=>by kernel_rfl
theorem rui120:Q 9 120:=fun v=>by kernel_rfl
theorem ruh24:Q 8 24:=fun v=>by kernel_rfl
theorem ruh56:Q 8 56:=fun v=>by kernel_rfl
theorem rug24:Q 7 24:=fun v=>by kernel_rfl
theorem rud0:Q 4 0:=fun v=>by kernel_rfl
end Go.Proofs.YtoeeackjlclneaaGreatDoor
