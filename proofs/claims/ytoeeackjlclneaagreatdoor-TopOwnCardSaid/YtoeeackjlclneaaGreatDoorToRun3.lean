/-
  TopOwn: runs, part 3.
-/
import Derived.Test.YtoeeackjlclneaaGreatDoorEvO7
namespace Go.Proofs.YtoeeackjlclneaaGreatDoor
theorem ruj2:Q 10 2:=fun v=>by kernel_rfl
theorem ruj34:Q 10 34:=fun v=>by kernel_rfl
theorem ruj66:Q 10 66:=fun v=>by kernel_rfl
theorem ruj98:Q 10 98:=fun v=>by kernel_rfl
theorem ruj130:Q 10 130:=fun v=>by kernel_rfl
theorem ruj162:Q 10 162:=fun v=>by kernel_rfl
theorem ruj194:Q 10 194:=fun v=>by kernel_rfl
theorem ruj226:Q 10 226:=fun v=>by kernel_rfl
theorem rui2:Q 9 2:=fun v=>by kernel_rfl
theorem rui34:Q 9 34:=fun v=>by kernel_rfl
theorem rui66:Q 9 66:=fun v=>by kernel_rfl
theorem rui98:Q 9 98:=fun v=>by kernel_rfl
theorem ruh2:Q 8 2:=fun v=>by kernel_rfl
theorem ruh34:Q 8 34:=fun v=>by kernel_rfl
theorem rug2:Q 7 2:=fun v=>by kernel_rfl
theorem ruf2:Q 6 2:=fun v=>by kernel_rfl
end Go.Proofs.YtoeeackjlclneaaGreatDoor
