/-
  TopOwn: runs, part 5.
-/
import Derived.Test.YtoeeackjlclneaaGreatDoorEvO7
namespace Go.Proofs.YtoeeackjlclneaaGreatDoor
theorem ruj4:Q 10 4:=fun v=>by kernel_rfl
theorem ruj36:Q 10 36:=fun v=>by kernel_rfl
theorem ruj68:Q 10 68:=fun v=>by kernel_rfl
theorem ruj100:Q 10 100:=fun v=>by kernel_rfl
theorem ruj132:Q 10 132:=fun v=>by kernel_rfl
theorem ruj164:Q 10 164:=fun v=>by kernel_rfl
theorem ruj196:Q 10 196:=fun v=>by kernel_rfl
theorem ruj228:Q 10 228:=fun v=>by kernel_rfl
theorem rui4:Q 9 4:=fun v=>by kernel_rfl
theorem rui36:Q 9 36:=fun v=>by kernel_rfl
theorem rui68:Q 9 68:=fun v=>by kernel_rfl
theorem rui100:Q 9 100:=fun v=>by kernel_rfl
theorem ruh4:Q 8 4:=fun v=>by kernel_rfl
theorem ruh36:Q 8 36:=fun v=>by kernel_rfl
theorem rug4:Q 7 4:=fun v=>by kernel_rfl
theorem ruf4:Q 6 4:=fun v=>by kernel_rfl
end Go.Proofs.YtoeeackjlclneaaGreatDoor
