/-
  TopOwn: runs, part 21.
-/
import Derived.Test.YtoeeackjlclneaaGreatDoorEvO7
namespace Go.Proofs.YtoeeackjlclneaaGreatDoor
theorem ruj20:Q 10 20:=fun v=>by kernel_rfl
theorem ruj52:Q 10 52:=fun v=>by kernel_rfl
theorem ruj84:Q 10 84:=fun v=>by kernel_rfl
theorem ruj116:Q 10 116:=fun v=>by kernel_rfl
theorem ruj148:Q 10 148:=fun v=>by kernel_rfl
theorem ruj180:Q 10 180:=fun v=>by kernel_rfl
theorem ruj212:Q 10 212:=fun v=>by kernel_rfl
theorem ruj244:Q 10 244:=fun v=>by kernel_rfl
theorem rui20:Q 9 20:=fun v=>by kernel_rfl
theorem rui52:Q 9 52:=fun v=>by kernel_rfl
theorem rui84:Q 9 84:=fun v=>by kernel_rfl
theorem rui116:Q 9 116:=fun v=>by kernel_rfl
theorem ruh20:Q 8 20:=fun v=>by kernel_rfl
theorem ruh52:Q 8 52:=fun v=>by kernel_rfl
theorem rug20:Q 7 20:=fun v=>by kernel_rfl
theorem rue4:Q 5 4:=fun v=>by kernel_rfl
end Go.Proofs.YtoeeackjlclneaaGreatDoor
