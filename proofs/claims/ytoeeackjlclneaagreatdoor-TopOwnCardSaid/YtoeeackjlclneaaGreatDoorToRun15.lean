/-
  TopOwn: runs, part 15.
-/
import Derived.Test.YtoeeackjlclneaaGreatDoorEvO7
namespace Go.Proofs.YtoeeackjlclneaaGreatDoor
theorem ruj14:Q 10 14:=fun v=>by kernel_rfl
theorem ruj46:Q 10 46:=fun v=>by kernel_rfl
theorem ruj78:Q 10 78:=fun v=>by kernel_rfl
theorem ruj110:Q 10 110:=fun v=>by kernel_rfl
theorem ruj142:Q 10 142:=fun v=>by kernel_rfl
theorem ruj174:Q 10 174:=fun v=>by kernel_rfl
theorem ruj206:Q 10 206:=fun v=>by kernel_rfl
theorem ruj238:Q 10 238:=fun v=>by kernel_rfl
theorem rui14:Q 9 14:=fun v=>by kernel_rfl
theorem rui46:Q 9 46:=fun v=>by kernel_rfl
theorem rui78:Q 9 78:=fun v=>by kernel_rfl
theorem rui110:Q 9 110:=fun v=>by kernel_rfl
theorem ruh14:Q 8 14:=fun v=>by kernel_rfl
theorem ruh46:Q 8 46:=fun v=>by kernel_rfl
theorem rug14:Q 7 14:=fun v=>by kernel_rfl
theorem ruf14:Q 6 14:=fun v=>by kernel_rfl
end Go.Proofs.YtoeeackjlclneaaGreatDoor
