/-
  TopOwn: runs, part 4.
-/
import Derived.Test.YtoeeackjlclneaaGreatDoorEvO7
namespace Go.Proofs.YtoeeackjlclneaaGreatDoor
theorem ruj3:Q 10 3:=fun v=>by kernel_rfl
theorem ruj35:Q 10 35:=fun v=>by kernel_rfl
theorem ruj67:Q 10 67:=fun v=>by kernel_rfl
theorem ruj99:Q 10 99:=fun v=>by kernel_rfl
theorem ruj131:Q 10 131:=fun v=>by kernel_rfl
theorem ruj163:Q 10 163:=fun v=>by kernel_rfl
theorem ruj195:Q 10 195:=fun v=>by kernel_rfl
theorem ruj227:Q 10 227:=fun v=>by kernel_rfl
theorem rui3:Q 9 3:=fun v=>by kernel_rfl
theorem rui35:Q 9 35:=fun v=>by kernel_rfl
theorem rui67:Q 9 67:=fun v=>by kernel_rfl
theorem rui99:Q 9 99:=fun v=>by kernel_rfl
theorem ruh3:Q 8 3:=fun v=>by kernel_rfl
theorem ruh35:Q 8 35:=fun v=>by kernel_rfl
theorem rug3:Q 7 3:=fun v=>by kernel_rfl
theorem ruf3:Q 6 3:=fun v=>by kernel_rfl
end Go.Proofs.YtoeeackjlclneaaGreatDoor
