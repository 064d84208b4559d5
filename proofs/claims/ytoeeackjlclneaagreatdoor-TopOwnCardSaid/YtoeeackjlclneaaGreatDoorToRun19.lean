/-
  TopOwn: runs, part 19.
-/
import Derived.Test.YtoeeackjlclneaaGreatDoorEvO7
namespace Go.Proofs.YtoeeackjlclneaaGreatDoor
theorem ruj18:Q 10 18:=fun v=>by kernel_rfl
theorem ruj50:Q 10 50:=fun v=>by kernel_rfl
theorem ruj82:Q 10 82:=fun v=>by kernel_rfl
theorem ruj114:Q 10 114:=fun v=>by kernel_rfl
theorem ruj146:Q 10 146:=fun v=>by kernel_rfl
theorem ruj178:Q 10 178:=fun v=>by kernel_rfl
theorem ruj210:Q 10 210:=fun v=>by kernel_rfl
theorem ruj242:Q 10 242:=fun v=>by kernel_rfl
theorem rui18:Q 9 18:=fun v=>by kernel_rfl
theorem rui50:Q 9 50:=fun v=>by kernel_rfl
theorem rui82:Q 9 82:=fun v=>by kernel_rfl
theorem rui114:Q 9 114:=fun v=>by kernel_rfl
theorem ruh18:Q 8 18:=fun v=>by kernel_rfl
theorem ruh50:Q 8 50:=fun v=>by kernel_rfl
theorem rug18:Q 7 18:=fun v=>by kernel_rfl
theorem rue2:Q 5 2:=fun v=>by kernel_rfl
end Go.Proofs.YtoeeackjlclneaaGreatDoor
