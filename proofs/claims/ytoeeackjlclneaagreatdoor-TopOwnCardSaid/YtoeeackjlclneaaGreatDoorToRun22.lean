/-
  TopOwn: runs, part 22.
-/
import Derived.Test.YtoeeackjlclneaaGreatDoorEvO7
namespace Go.Proofs.YtoeeackjlclneaaGreatDoor
theorem ruj21:Q 10 21:=fun v=>by kernel_rfl
theorem ruj53:Q 10 53:=fun v=>by kernel_rfl
theorem ruj85:Q 10 85:=fun v=>by kernel_rfl
theorem ruj117:Q 10 117:=fun v=>by kernel_rfl
theorem ruj149:Q 10 149:=fun v=>by kernel_rfl
theorem ruj181:Q 10 181:=fun v=>by kernel_rfl
theorem ruj213:Q 10 213:=fun v=>by kernel_rfl
theorem ruj245:Q 10 245:=fun v=>by kernel_rfl
theorem rui21:Q 9 21:=fun v=>by kernel_rfl
theorem rui53:Q 9 53:=fun v=>by kernel_rfl
theorem rui85:Q 9 85:=fun v=>by kernel_rfl
theorem rui117:Q 9 117:=fun v=>by kernel_rfl
theorem ruh21:Q 8 21:=fun v=>by kernel_rfl
theorem ruh53:Q 8 53:=fun v=>by kernel_rfl
theorem rug21:Q 7 21:=fun v=>by kernel_rfl
theorem rue5:Q 5 5:=fun v=>by kernel_rfl
end Go.Proofs.YtoeeackjlclneaaGreatDoor
