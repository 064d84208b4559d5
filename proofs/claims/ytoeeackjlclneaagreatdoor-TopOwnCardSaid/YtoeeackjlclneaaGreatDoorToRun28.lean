/-
  TopOwn: runs, part 28.
-/
import Derived.Test.YtoeeackjlclneaaGreatDoorEvO7
namespace Go.Proofs.YtoeeackjlclneaaGreatDoor
theorem ruj27:Q 10 27:=fun v=>by kernel_rfl
theorem ruj59:Q 10 59:=fun v=>by kernel_rfl
theorem ruj91:Q 10 91:=fun v=>by kernel_rfl
theorem ruj123:Q 10 123:=fun v=>by kernel_rfl
theorem ruj155:Q 10 155:=fun v=>by kernel_rfl
theorem ruj187:Q 10 187:=fun v=>by kernel_rfl
theorem ruj219:Q 10 219:=fun v=>by kernel_rfl
theorem ruj251:Q 10 251:=fun v=>by kernel_rfl
theorem rui27:Q 9 27:=fun v=>by kernel_rfl
theorem rui59:Q 9 59:=fun v=>by kernel_rfl
theorem rui91:Q 9 91:=fun v=>by kernel_rfl
theorem rui123:Q 9 123:=fun v=>by kernel_rfl
theorem ruh27:Q 8 27:=fun v=>by kernel_rfl
theorem ruh59:Q 8 59:=fun v=>by kernel_rfl
theorem rug27:Q 7 27:=fun v=>by kernel_rfl
theorem rud3:Q 4 3:=fun v=>by kernel_rfl
end Go.Proofs.YtoeeackjlclneaaGreatDoor
