/-
  TopOwn: runs, part 31.
-/
import Derived.Test.YtoeeackjlclneaaGreatDoorEvO7
namespace Go.Proofs.YtoeeackjlclneaaGreatDoor
theorem ruj30:Q 10 30:=fun v=>by kernel_rfl
theorem ruj62:Q 10 62:=fun v=>by kernel_rfl
theorem ruj94:Q 10 94:=fun v=>by kernel_rfl
theorem ruj126:Q 10 126:=fun v=>by kernel_rfl
theorem ruj158:Q 10 158:=fun v=>by kernel_rfl
theorem ruj190:Q 10 190:=fun v=>by kernel_rfl
theorem ruj222:Q 10 222:=fun v=>by kernel_rfl
theorem ruj254:Q 10 254:=fun v=>by kernel_rfl
theorem rui30:Q 9 30:=fun v=>by kernel_rfl
theorem rui62:Q 9 62:=fun v=>by kernel_rfl
theorem rui94:Q 9 94:=fun v=>by kernel_rfl
theorem rui126:Q 9 126:=fun v=>by kernel_rfl
theorem ruh30:Q 8 30:=fun v=>by kernel_rfl
theorem ruh62:Q 8 62:=fun v=>by kernel_rfl
theorem rug30:Q 7 30:=fun v=>by kernel_rfl
theorem rub0:Q 2 0:=fun v=>by kernel_rfl
end Go.Proofs.YtoeeackjlclneaaGreatDoor
