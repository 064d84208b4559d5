/-
  TopOwn: runs, part 29.
-/
import Derived.Test.YtoeeackjlclneaaGreatDoorEvO7
namespace Go.Proofs.YtoeeackjlclneaaGreatDoor
theorem ruj28:Q 10 28:=fun v=>by kernel_rfl
theorem ruj60:Q 10 60:=fun v=>by kernel_rfl
theorem ruj92:Q 10 92:=fun v=>by kernel_rfl
theorem ruj124:Q 10 124:=fun v=>by kernel_rfl
theorem ruj156:Q 10 156:=fun v=>by kernel_rfl
theorem ruj188:Q 10 188:=fun v=>by kernel_rfl
theorem ruj220:Q 10 220:=fun v=>by kernel_rfl
theorem ruj252:Q 10 252:=fun v=>by kernel_rfl
theorem rui28:Q 9 28:=fun v=>by kernel_rfl
theorem rui60:Q 9 60:=fun v=>by kernel_rfl
theorem rui92:Q 9 92:=fun v=>by kernel_rfl
theorem rui124:Q 9 124:=fun v=>by kernel_rfl
theorem ruh28:Q 8 28:=fun v=>by kernel_rfl
theorem ruh60:Q 8 60:=fun v=>by kernel_rfl
theorem rug28:Q 7 28:=fun v=>by kernel_rfl
theorem ruc0:Q 3 0:=fun v=>by kernel_rfl
end Go.Proofs.YtoeeackjlclneaaGreatDoor
