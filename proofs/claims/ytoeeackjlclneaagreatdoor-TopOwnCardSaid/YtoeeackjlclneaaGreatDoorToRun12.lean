/-
  TopOwn: runs, part 12.
-/
import Derived.Test.YtoeeackjlclneaaGreatDoorEvO7
namespace Go.Proofs.YtoeeackjlclneaaGreatDoor
theorem ruj11:Q 10 11:=fun v=>by kernel_rfl
theorem ruj43:Q 10 43:=fun v=>by kernel_rfl
theorem ruj75:Q 10 75:=fun v=>by kernel_rfl
theorem ruj107:Q 10 107:=fun v=>by kernel_rfl
theorem ruj139:Q 10 139:=fun v=>by kernel_rfl
theorem ruj171:Q 10 171:=fun v=>by kernel_rfl
theorem ruj203:Q 10 203:=fun v=>by kernel_rfl
theorem ruj235:Q 10 235:=fun v=>by kernel_rfl
theorem rui11:Q 9 11:=fun v=>by kernel_rfl
theorem rui43:Q 9 43:=fun v=>by kernel_rfl
theorem rui75:Q 9 75:=fun v=>by kernel_rfl
theorem rui107:Q 9 107:=fun v=>by kernel_rfl
theorem ruh11:Q 8 11:=fun v=>by kernel_rfl
theorem ruh43:Q 8 43:=fun v=>by kernel_rfl
theorem rug11:Q 7 11:=fun v=>by kernel_rfl
theorem ruf11:Q 6 11:=fun v=>by kernel_rfl
end Go.Proofs.YtoeeackjlclneaaGreatDoor
