/-
  TopOwn: runs, part 1.
-/
import Derived.Test.YtoeeackjlclneaaGreatDoorEvO7
namespace Go.Proofs.YtoeeackjlclneaaGreatDoor
theorem ruj0:Q 10 0:=fun v=>by kernel_rfl
theorem ruj32:Q 10 32:=fun v=>by kernel_rfl
theorem ruj64:Q 10 64:=fun v=>by kernel_rfl
theorem ruj96:Q 10 96:=fun v=>by kernel_rfl
theorem ruj128:Q 10 128:=fun v=>by kernel_rfl
theorem ruj160:Q 10 160:=fun v=>by kernel_rfl
theorem ruj192:Q 10 192:=fun v=>by kernel_rfl
theorem ruj224:Q 10 224:=fun v=>by kernel_rfl
theorem rui0:Q 9 0:=fun v=>by kernel_rfl
theorem rui32:Q 9 32:=fun v=>by kernel_rfl
theorem rui64:Q 9 64:=fun v=>by kernel_rfl
theorem rui96:Q 9 96:=fun v=>by kernel_rfl
theorem ruh0:Q 8 0:=fun v=>by kernel_rfl
theorem ruh32:Q 8 32:=fun v=>by kernel_rfl
theorem rug0:Q 7 0:=fun v=>by kernel_rfl
theorem ruf0:Q 6 0:=fun v=>by kernel_rfl
end Go.Proofs.YtoeeackjlclneaaGreatDoor
