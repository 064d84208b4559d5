/-
  TopOwn: runs, part 23.
-/
import Derived.Test.YtoeeackjlclneaaGreatDoorEvO7
namespace Go.Proofs.YtoeeackjlclneaaGreatDoor
theorem ruj22:Q 10 22:=fun v=>by kernel_rfl
theorem ruj54:Q 10 54:=fun v=>by kernel_rfl
theorem ruj86:Q 10 86:=fun v=>by kernel_rfl
theorem ruj118:Q 10 118:=fun v=>by kernel_rfl
theorem ruj150:Q 10 150:=fun v=>by kernel_rfl
theorem ruj182:Q 10 182:=fun v=>by kernel_rfl
theorem ruj214:Q 10 214:=fun v=>by kernel_rfl
theorem ruj246:Q 10 246:=fun v=>by kernel_rfl
theorem rui22:Q 9 22:=fun v=>by kernel_rfl
theorem rui54:Q 9 54:=fun v=>by kernel_rfl
theorem rui86:Q 9 86:=fun v=>by kernel_rfl
theorem rui118:Q 9 118:=fun v=>by kernel_rfl
theorem ruh22:Q 8 22:=fun v=>by kernel_rfl
theorem ruh54:Q 8 54:=fun v=>by kernel_rfl
theorem rug22:Q 7 22:=fun v=>by kernel_rfl
theorem rue6:Q 5 6:=fun v=>by kernel_rfl
end Go.Proofs.YtoeeackjlclneaaGreatDoor
