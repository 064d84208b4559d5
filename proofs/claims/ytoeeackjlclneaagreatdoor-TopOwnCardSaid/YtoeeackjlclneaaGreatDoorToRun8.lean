/-
  TopOwn: runs, part 8.
-/
import Derived.Test.YtoeeackjlclneaaGreatDoorEvO7
namespace Go.Proofs.YtoeeackjlclneaaGreatDoor
theorem ruj7:Q 10 7:=fun v=>by kernel_rfl
theorem ruj39:Q 10 39:=fun v=>by kernel_rfl
theorem ruj71:Q 10 71:=fun v=>by kernel_rfl
theorem ruj103:Q 10 103:=fun v=>by kernel_rfl
theorem ruj135:Q 10 135:=fun v=>by kernel_rfl
theorem ruj167:Q 10 167:=fun v=>by kernel_rfl
theorem ruj199:Q 10 199:=fun v=>by kernel_rfl
theorem ruj231:Q 10 231:=fun v=>by kernel_rfl
theorem rui7:Q 9 7:=fun v=>by kernel_rfl
theorem rui39:Q 9 39:=fun v=>by kernel_rfl
theorem rui71:Q 9 71:=fun v=>by kernel_rfl
theorem rui103:Q 9 103:=fun v=>by kernel_rfl
theorem ruh7:Q 8 7:=fun v=>by kernel_rfl
theorem ruh39:Q 8 39:=fun v=>by kernel_rfl
theorem rug7:Q 7 7:=fun v=>by kernel_rfl
theorem ruf7:Q 6 7:=fun v=>by kernel_rfl
end Go.Proofs.YtoeeackjlclneaaGreatDoor
