/-
  TopOwn: runs, part 2.
-/
import Derived.Test.YtoeeackjlclneaaGreatDoorEvO7
namespace Go.Proofs.YtoeeackjlclneaaGreatDoor
theorem ruj1:Q 10 1:=fun v=>by kernel_rfl
theorem ruj33:Q 10 33:=fun v=>by kernel_rfl
theorem ruj65:Q 10 65:=fun v=>by kernel_rfl
theorem ruj97:Q 10 97:=fun v=>by kernel_rfl
theorem ruj129:Q 10 129:=fun v=>by kernel_rfl
theorem ruj161:Q 10 161:=fun v=>by kernel_rfl
theorem ruj193:Q 10 193:=fun v=>by kernel_rfl
theorem ruj225:Q 10 225:=fun v=>by kernel_rfl
theorem rui1:Q 9 1:=fun v=>by kernel_rfl
theorem rui33:Q 9 33:=fun v=>by kernel_rfl
theorem rui65:Q 9 65:=fun v=>by kernel_rfl
theorem rui97:Q 9 97:=fun v=>by kernel_rfl
theorem ruh1:Q 8 1:=fun v=>by kernel_rfl
theorem ruh33:Q 8 33:=fun v=>by kernel_rfl
theorem rug1:Q 7 1:=fun v=>by kernel_rfl
theorem ruf1:Q 6 1:=fun v=>by kernel_rfl
end Go.Proofs.YtoeeackjlclneaaGreatDoor
