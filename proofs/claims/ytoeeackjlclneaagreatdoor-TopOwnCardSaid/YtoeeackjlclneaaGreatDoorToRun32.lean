/-
  TopOwn: runs, part 32.
-/
import Derived.Test.YtoeeackjlclneaaGreatDoorEvO7
namespace Go.Proofs.YtoeeackjlclneaaGreatDoor
theorem ruj31:Q 10 31:=fun v=>by kernel_rfl
theorem ruj63:Q 10 63:=fun v=>by kernel_rfl
theorem ruj95:Q 10 95:=fun v=>by kernel_rfl
theorem ruj127:Q 10 127:=fun v=>by kernel_rfl
theorem ruj159:Q 10 159:=fun v=>by kernel_rfl
theorem ruj191:Q 10 191:=fun v=>by kernel_rfl
theorem ruj223:Q 10 223:=fun v=>by kernel_rfl
theorem ruj255:Q 10 255:=fun v=>by kernel_rfl
theorem rui31:Q 9 31:=fun v=>by kernel_rfl
theorem rui63:Q 9 63:=fun v=>by kernel_rfl
theorem rui95:Q 9 95:=fun v=>by kernel_rfl
theorem rui127:Q 9 127:=fun v=>by kernel_rfl
theorem ruh31:Q 8 31:=fun v=>by kernel_rfl
theorem ruh63:Q 8 63:=fun v=>by kernel_rfl
theorem rug31:Q 7 31:=fun v=>by kernel_rfl
theorem rua0:Q 1 0:=fun v=>by kernel_rfl
end Go.Proofs.YtoeeackjlclneaaGreatDoor
