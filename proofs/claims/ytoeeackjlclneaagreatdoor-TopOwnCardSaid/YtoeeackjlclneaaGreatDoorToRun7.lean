/-
  TopOwn: runs, part 7.
-/
import Derived.Test.YtoeeackjlclneaaGreatDoorEvO7
namespace Go.Proofs.YtoeeackjlclneaaGreatDoor
theorem ruj6:Q 10 6:=fun v=>by kernel_rfl
theorem ruj38:Q 10 38:=fun v=>by kernel_rfl
theorem ruj70:Q 10 70:=fun v=>by kernel_rfl
theorem ruj102:Q 10 102:=fun v=>by kernel_rfl
theorem ruj134:Q 10 134:=fun v=>by kernel_rfl
theorem ruj166:Q 10 166:=fun v=>by kernel_rfl
theorem ruj198:Q 10 198:=fun v=>by kernel_rfl
theorem ruj230:Q 10 230:=fun v=>by kernel_rfl
theorem rui6:Q 9 6:=fun v=>by kernel_rfl
theorem rui38:Q 9 38:=fun v=>by kernel_rfl
theorem rui70:Q 9 70:=fun v=>by kernel_rfl
theorem rui102:Q 9 102:=fun v=>by kernel_rfl
theorem ruh6:Q 8 6:=fun v=>by kernel_rfl
theorem ruh38:Q 8 38:=fun v=>by kernel_rfl
theorem rug6:Q 7 6:=fun v=>by kernel_rfl
theorem ruf6:Q 6 6:=fun v=>by kernel_rfl
end Go.Proofs.YtoeeackjlclneaaGreatDoor
