/-
  TopOwn: runs, part 27.
-/
import Derived.Test.YtoeeackjlclneaaGreatDoorEvO7
namespace Go.Proofs.YtoeeackjlclneaaGreatDoor
theorem ruj26:Q 10 26:=fun v=>by kernel_rfl
theorem ruj58:Q 10 58:=fun v=>by kernel_rfl
theorem ruj90:Q 10 90:=fun v=>by kernel_rfl
theorem ruj122:Q 10 122:=fun v=>by kernel_rfl
theorem ruj154:Q 10 154:=fun v=>by kernel_rfl
theorem ruj186:Q 10 186:=fun v=>by kernel_rfl
theorem ruj218:Q 10 218:=fun v=>by kernel_rfl
theorem ruj250:Q 10 250:=fun v=>by kernel_rfl
theorem rui26:Q 9 26:=fun v=>by kernel_rfl
theorem rui58:Q 9 58:=fun v=>by kernel_rfl
theorem rui90:Q 9 90:=fun v=>by kernel_rfl
theorem rui122:Q 9 122:=fun v=>by kernel_rfl
theorem ruh26:Q 8 26:=fun v=>by kernel_rfl
theorem ruh58:Q 8 58:=fun v=>by kernel_rfl
theorem rug26:Q 7 26:=fun v=>by kernel_rfl
theorem rud2:Q 4 2:=fun v=>by kernel_rfl
end Go.Proofs.YtoeeackjlclneaaGreatDoor
