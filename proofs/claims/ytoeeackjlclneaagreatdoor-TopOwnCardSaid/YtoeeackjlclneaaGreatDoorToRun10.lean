/-
  TopOwn: runs, part 10.
-/
import Derived.Test.YtoeeackjlclneaaGreatDoorEvO7
namespace Go.Proofs.YtoeeackjlclneaaGreatDoor
theorem ruj9:Q 10 9:=fun v=>by kernel_rfl
theorem ruj41:Q 10 41:=fun v=>by kernel_rfl
theorem ruj73:Q 10 73:=fun v=>by kernel_rfl
theorem ruj105:Q 10 105:=fun v=>by kernel_rfl
theorem ruj137:Q 10 137:=fun v=>by kernel_rfl
theorem ruj169:Q 10 169:=fun v=>by kernel_rfl
theorem ruj201:Q 10 201:=fun v=>by kernel_rfl
theorem ruj233:Q 10 233:=fun v=>by kernel_rfl
theorem rui9:Q 9 9:=fun v=>by kernel_rfl
theorem rui41:Q 9 41:=fun v=>by kernel_rfl
theorem rui73:Q 9 73:=fun v=>by kernel_rfl
theorem rui105:Q 9 105:=fun v=>by kernel_rfl
theorem ruh9:Q 8 9:=fun v=>by kernel_rfl
theorem ruh41:Q 8 41:=fun v=>by kernel_rfl
theorem rug9:Q 7 9:=fun v=>by kernel_rfl
theorem ruf9:Q 6 9:=fun v=>by kernel_rfl
end Go.Proofs.YtoeeackjlclneaaGreatDoor
