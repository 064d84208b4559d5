/-
  TopOwn: runs, part 14.
-/
import Derived.Test.YtoeeackjlclneaaGreatDoorEvO7
namespace Go.Proofs.YtoeeackjlclneaaGreatDoor
theorem ruj13:Q 10 13:=fun v=>by kernel_rfl
theorem ruj45:Q 10 45:=fun v=>by kernel_rfl
theorem ruj77:Q 10 77:=fun v=>by kernel_rfl
theorem ruj109:Q 10 109:=fun v=>by kernel_rfl
theorem ruj141:Q 10 141:=fun v=>by kernel_rfl
theorem ruj173:Q 10 173:=fun v=>by kernel_rfl
theorem ruj205:Q 10 205:=fun v=>by kernel_rfl
theorem ruj237:Q 10 237:=fun v=>by kernel_rfl
theorem rui13:Q 9 13:=fun v=>by kernel_rfl
theorem rui45:Q 9 45:=fun v=>by kernel_rfl
theorem rui77:Q 9 77:=fun v=>by kernel_rfl
theorem rui109:Q 9 109:=fun v=>by kernel_rfl
theorem ruh13:Q 8 13:=fun v=>by kernel_rfl
theorem ruh45:Q 8 45:=fun v=>by kernel_rfl
theorem rug13:Q 7 13:=fun v=>by kernel_rfl
theorem ruf13:Q 6 13:=fun v=>by kernel_rfl
end Go.Proofs.YtoeeackjlclneaaGreatDoor
