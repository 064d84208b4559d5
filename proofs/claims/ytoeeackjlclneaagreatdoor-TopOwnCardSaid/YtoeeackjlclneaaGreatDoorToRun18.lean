/-
  TopOwn: runs, part 18.
-/
import Derived.Test.YtoeeackjlclneaaGreatDoorEvO7
namespace Go.Proofs.YtoeeackjlclneaaGreatDoor
theorem ruj17:Q 10 17:=fun v=>by kernel_rfl
theorem ruj49:Q 10 49:=fun v=>by kernel_rfl
theorem ruj81:Q 10 81:=fun v=>by kernel_rfl
theorem ruj113:Q 10 113:=fun v=>by kernel_rfl
theorem ruj145:Q 10 145:=fun v=>by kernel_rfl
theorem ruj177:Q 10 177:=fun v=>by kernel_rfl
theorem ruj209:Q 10 209:=fun v=>by kernel_rfl
theorem ruj241:Q 10 241:=fun v=>by kernel_rfl
theorem rui17:Q 9 17:=fun v=>by kernel_rfl
theorem rui49:Q 9 49:=fun v=>by kernel_rfl
theorem rui81:Q 9 81:=fun v=>by kernel_rfl
theorem rui113:Q 9 113:=fun v=>by kernel_rfl
theorem ruh17:Q 8 17:=fun v=>by kernel_rfl
theorem ruh49:Q 8 49:=fun v=>by kernel_rfl
theorem rug17:Q 7 17:=fun v=>by kernel_rfl
theorem rue1:Q 5 1:=fun v=>by kernel_rfl
end Go.Proofs.YtoeeackjlclneaaGreatDoor
