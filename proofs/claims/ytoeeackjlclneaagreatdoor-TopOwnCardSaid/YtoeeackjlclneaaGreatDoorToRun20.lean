/-
  TopOwn: runs, part 20.
-/
import Derived.Test.YtoeeackjlclneaaGreatDoorEvO7
namespace Go.Proofs.YtoeeackjlclneaaGreatDoor
theorem ruj19:Q 10 19:=fun v=>by kernel_rfl
theorem ruj51:Q 10 51:=fun v=>by kernel_rfl
theorem ruj83:Q 10 83:=fun v=>by kernel_rfl
theorem ruj115:Q 10 115:=fun v=>by kernel_rfl
theorem ruj147:Q 10 147:=fun v=>by kernel_rfl
theorem ruj179:Q 10 179:=fun v=>by kernel_rfl
theorem ruj211:Q 10 211:=fun v=>by kernel_rfl
theorem ruj243:Q 10 243:=fun v=>by kernel_rfl
theorem rui19:Q 9 19:=fun v=>by kernel_rfl
theorem rui51:Q 9 51:=fun v=>by kernel_rfl
theorem rui83:Q 9 83:=fun v=>by kernel_rfl
theorem rui115:Q 9 115:=fun v=>by kernel_rfl
theorem ruh19:Q 8 19:=fun v=>by kernel_rfl
theorem ruh51:Q 8 51:=fun v=>by kernel_rfl
theorem rug19:Q 7 19:=fun v=>by kernel_rfl
theorem rue3:Q 5 3:=fun v=>by kernel_rfl
end Go.Proofs.YtoeeackjlclneaaGreatDoor
