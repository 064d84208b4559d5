/-
  TopOwn: runs, part 9.
-/
import Derived.Test.YtoeeackjlclneaaGreatDoorEvO7
namespace Go.Proofs.YtoeeackjlclneaaGreatDoor
theorem ruj8:Q 10 8:=fun v=>by kernel_rfl
theorem ruj40:Q 10 40:=fun v=>by kernel_rfl
theorem ruj72:Q 10 72:=fun v=>by kernel_rfl
theorem ruj104:Q 10 104:=fun v=>by kernel_rfl
theorem ruj136:Q 10 136:=fun v=>by kernel_rfl
theorem ruj168:Q 10 168:=fun v=>by kernel_rfl
theorem ruj200:Q 10 200:=fun v=>by kernel_rfl
theorem ruj232:Q 10 232:=fun v=>by kernel_rfl
theorem rui8:Q 9 8:=fun v=>by kernel_rfl
theorem rui40:Q 9 40:=fun v=>by kernel_rfl
theorem rui72:Q 9 72:=fun v=>by kernel_rfl
theorem rui104:Q 9 104:=fun v=>by kernel_rfl
theorem ruh8:Q 8 8:=fun v=>by kernel_rfl
theorem ruh40:Q 8 40:=fun v=>by kernel_rfl
theorem rug8:Q 7 8:=fun v=>by kernel_rfl
theorem ruf8:Q 6 8:=fun v=>by kernel_rfl
end Go.Proofs.YtoeeackjlclneaaGreatDoor
