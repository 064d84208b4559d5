/-
  TopOwn: runs, part 30.
-/
import Derived.Test.YtoeeackjlclneaaGreatDoorEvO7
namespace Go.Proofs.YtoeeackjlclneaaGreatDoor
theorem ruj29:Q 10 29:=fun v=>by kernel_rfl
theorem ruj61:Q 10 61:=fun v=>by kernel_rfl
theorem ruj93:Q 10 93:=fun v=>by kernel_rfl
theorem ruj125:Q 10 125:=fun v=>by kernel_rfl
theorem ruj157:Q 10 157:=fun v=>by kernel_rfl
theorem ruj189:Q 10 189:=fun v=>by kernel_rfl
theorem ruj221:Q 10 221:=fun v=>by kernel_rfl
theorem ruj253:Q 10 253:=fun v=>by kernel_rfl
theorem rui29:Q 9 29:=fun v=>by kernel_rfl
theorem rui61:Q 9 61:=fun v=>by kernel_rfl
theorem rui93:Q 9 93:=fun v=>by kernel_rfl
theorem rui125:Q 9 125:=fun v=>by kernel_rfl
theorem ruh29:Q 8 29:=fun v=>by kernel_rfl
theorem ruh61:Q 8 61:=fun v=>by kernel_rfl
theorem rug29:Q 7 29:=fun v=>by kernel_rfl
theorem ruc1:Q 3 1:=fun v=>by kernel_rfl
end Go.Proofs.YtoeeackjlclneaaGreatDoor
