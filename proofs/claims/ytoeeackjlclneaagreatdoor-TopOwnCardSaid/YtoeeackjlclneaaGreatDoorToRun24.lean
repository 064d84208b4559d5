/-
  TopOwn: runs, part 24.
-/
import Derived.Test.YtoeeackjlclneaaGreatDoorEvO7
namespace Go.Proofs.YtoeeackjlclneaaGreatDoor
theorem ruj23:Q 10 23:=fun v=>by kernel_rfl
theorem ruj55:Q 10 55:=fun v=>by kernel_rfl
theorem ruj87:Q 10 87:=fun v=>by kernel_rfl
theorem ruj119:Q 10 119:=fun v=>by kernel_rfl
theorem ruj151:Q 10 151:=fun v=>by kernel_rfl
theorem ruj183:Q 10 183:=fun v=>by kernel_rfl
theorem ruj215:Q 10 215:=fun v=>by kernel_rfl
theorem ruj247:Q 10 247:=fun v=>by kernel_rfl
theorem rui23:Q 9 23:=fun v=>by kernel_rfl
theorem rui55:Q 9 55:=fun v=>by kernel_rfl
theorem rui87:Q 9 87:=fun v=>by kernel_rfl
theorem rui119:Q 9 119:=fun v=>by kernel_rfl
theorem ruh23:Q 8 23:=fun v=>by kernel_rfl
theorem ruh55:Q 8 55:=fun v=>by kernel_rfl
theorem rug23:Q 7 23:=fun v=>by kernel_rfl
theorem rue7:Q 5 7:=fun v=>by kernel_rfl
end Go.Proofs.YtoeeackjlclneaaGreatDoor
