/-
  TopOwn: runs, part 16.
-/
import Derived.Test.YtoeeackjlclneaaGreatDoorEvO7
namespace Go.Proofs.YtoeeackjlclneaaGreatDoor
theorem ruj15:Q 10 15:=fun v=>by kernel_rfl
theorem ruj47:Q 10 47:=fun v=>by kernel_rfl
theorem ruj79:Q 10 79:=fun v=>by kernel_rfl
theorem ruj111:Q 10 111:=fun v=>by kernel_rfl
theorem ruj143:Q 10 143:=fun v=>by kernel_rfl
theorem ruj175:Q 10 175:=fun v=>by kernel_rfl
theorem ruj207:Q 10 207:=fun v=>by kernel_rfl
theorem ruj239:Q 10 239:=fun v=>by kernel_rfl
theorem rui15:Q 9 15:=fun v=>by kernel_rfl
theorem rui47:Q 9 47:=fun v=>by kernel_rfl
theorem rui79:Q 9 79:=fun v=>by kernel_rfl
theorem rui111:Q 9 111:=fun v=>by kernel_rfl
theorem ruh15:Q 8 15:=fun v=>by kernel_rfl
theorem ruh47:Q 8 47:=fun v=>by kernel_rfl
theorem rug15:Q 7 15:=fun v=>by kernel_rfl
theorem ruf15:Q 6 15:=fun v=>by kernel_rfl
end Go.Proofs.YtoeeackjlclneaaGreatDoor
