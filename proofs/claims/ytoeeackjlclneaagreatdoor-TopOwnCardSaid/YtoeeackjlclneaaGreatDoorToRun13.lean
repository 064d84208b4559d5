/-
  TopOwn: runs, part 13.
-/
import Derived.Test.YtoeeackjlclneaaGreatDoorEvO7
namespace Go.Proofs.YtoeeackjlclneaaGreatDoor
theorem ruj12:Q 10 12:=fun v=>by kernel_rfl
theorem ruj44:Q 10 44:=fun v=>by kernel_rfl
theorem ruj76:Q 10 76:=fun v=>by kernel_rfl
theorem ruj108:Q 10 108:=fun v=>by kernel_rfl
theorem ruj140:Q 10 140:=fun v=>by kernel_rfl
theorem ruj172:Q 10 172:=fun v=>by kernel_rfl
theorem ruj204:Q 10 204:=fun v=>by kernel_rfl
theorem ruj236:Q 10 236:=fun v=>by kernel_rfl
theorem rui12:Q 9 12:=fun v=>by kernel_rfl
theorem rui44:Q 9 44:=fun v=>by kernel_rfl
theorem rui76:Q 9 76:=fun v=>by kernel_rfl
theorem rui108:Q 9 108:=fun v=>by kernel_rfl
theorem ruh12:Q 8 12:=fun v=>by kernel_rfl
theorem ruh44:Q 8 44:=fun v=>by kernel_rfl
theorem rug12:Q 7 12:=fun v=>by kernel_rfl
theorem ruf12:Q 6 12:=fun v=>by kernel_rfl
end Go.Proofs.YtoeeackjlclneaaGreatDoor
