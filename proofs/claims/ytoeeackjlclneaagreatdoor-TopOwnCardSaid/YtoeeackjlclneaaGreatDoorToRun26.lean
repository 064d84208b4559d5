/-
  TopOwn: runs, part 26.
-/
import Derived.Test.YtoeeackjlclneaaGreatDoorEvO7
namespace Go.Proofs.YtoeeackjlclneaaGreatDoor
theorem ruj25:Q 10 25:=fun v=>by kernel_rfl
theorem ruj57:Q 10 57:=fun v=>by kernel_rfl
theorem ruj89:Q 10 89:=fun v=>by kernel_rfl
theorem ruj121:Q 10 121:=fun v=>by kernel_rfl
theorem ruj153:Q 10 153:=fun v=>by kernel_rfl
theorem ruj185:Q 10 185:=fun v=>by kernel_rfl
theorem ruj217:Q 10 217:=fun v=>by kernel_rfl
theorem ruj249:Q 10 249:=fun v=>by kernel_rfl
theorem rui25:Q 9 25:=fun v=>by kernel_rfl
theorem rui57:Q 9 57:=fun v=>by kernel_rfl
theorem rui89:Q 9 89:=fun v=>by kernel_rfl
theorem rui121:Q 9 121:=fun v=>by kernel_rfl
theorem ruh25:Q 8 25:=fun v=>by kernel_rfl
theorem ruh57:Q 8 57:=fun v=>by kernel_rfl
theorem rug25:Q 7 25:=fun v=>by kernel_rfl
theorem rud1:Q 4 1:=fun v=>by kernel_rfl
end Go.Proofs.YtoeeackjlclneaaGreatDoor
