/-
  TopOwn: runs, part 11.
-/
import Derived.Test.YtoeeackjlclneaaGreatDoorEvO7
namespace Go.Proofs.YtoeeackjlclneaaGreatDoor
theorem ruj10:Q 10 10:=fun v=>by kernel_rfl
theorem ruj42:Q 10 42:=fun v=>by kernel_rfl
theorem ruj74:Q 10 74:=fun v=>by kernel_rfl
theorem ruj106:Q 10 106:=fun v=>by kernel_rfl
theorem ruj138:Q 10 138:=fun v=>by kernel_rfl
theorem ruj170:Q 10 170:=fun v=>by kernel_rfl
theorem ruj202:Q 10 202:=fun v=>by kernel_rfl
theorem ruj234:Q 10 234:=fun v=>by kernel_rfl
theorem rui10:Q 9 10:=fun v=>by kernel_rfl
theorem rui42:Q 9 42:=fun v=>by kernel_rfl
theorem rui74:Q 9 74:=fun v=>by kernel_rfl
theorem rui106:Q 9 106:=fun v=>by kernel_rfl
theorem ruh10:Q 8 10:=fun v=>by kernel_rfl
theorem ruh42:Q 8 42:=fun v=>by kernel_rfl
theorem rug10:Q 7 10:=fun v=>by kernel_rfl
theorem ruf10:Q 6 10:=fun v=>by kernel_rfl
end Go.Proofs.YtoeeackjlclneaaGreatDoor
