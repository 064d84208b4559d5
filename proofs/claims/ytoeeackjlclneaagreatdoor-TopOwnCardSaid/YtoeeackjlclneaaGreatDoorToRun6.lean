/-
  TopOwn: runs, part 6.
-/
import Derived.Test.YtoeeackjlclneaaGreatDoorEvO7
namespace Go.Proofs.YtoeeackjlclneaaGreatDoor
theorem ruj5:Q 10 5:=fun v=>by kernel_rfl
theorem ruj37:Q 10 37:=fun v=>by kernel_rfl
theorem ruj69:Q 10 69:=fun v=>by kernel_rfl
theorem ruj101:Q 10 101:=fun v=>by kernel_rfl
theorem ruj133:Q 10 133:=fun v=>by kernel_rfl
theorem ruj165:Q 10 165:=fun v=>by kernel_rfl
theorem ruj197:Q 10 197:=fun v=>by kernel_rfl
theorem ruj229:Q 10 229:=fun v=>by kernel_rfl
theorem rui5:Q 9 5:=fun v=>by kernel_rfl
theorem rui37:Q 9 37:=fun v=>by kernel_rfl
theorem rui69:Q 9 69:=fun v=>by kernel_rfl
theorem rui101:Q 9 101:=fun v=>by kernel_rfl
theorem ruh5:Q 8 5:=fun v=>by kernel_rfl
theorem ruh37:Q 8 37:=fun v=>by kernel_rfl
theorem rug5:Q 7 5:=fun v=>by kernel_rfl
theorem ruf5:Q 6 5:=fun v=>by kernel_rfl
end Go.Proofs.YtoeeackjlclneaaGreatDoor
