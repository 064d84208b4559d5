/-
  TopOwn: runs, part 17.
-/
import Derived.Test.YtoeeackjlclneaaGreatDoorEvO7
namespace Go.Proofs.YtoeeackjlclneaaGreatDoor
theorem ruj16:Q 10 16:=fun v=>by kernel_rfl
theorem ruj48:Q 10 48:=fun v=>by kernel_rfl
theorem ruj80:Q 10 80:=fun v=>by kernel_rfl
theorem ruj112:Q 10 112:=fun v=>by kernel_rfl
theorem ruj144:Q 10 144:=fun v=>by kernel_rfl
theorem ruj176:Q 10 176:=fun v=>by kernel_rfl
theorem ruj208:Q 10 208:=fun v=>by kernel_rfl
theorem ruj240:Q 10 240:=fun v=>by kernel_rfl
theorem rui16:Q 9 16:=fun v=>by kernel_rfl
theorem rui48:Q 9 48:=fun v=>by kernel_rfl
theorem rui80:Q 9 80:=fun v=>by kernel_rfl
theorem rui112:Q 9 112:=fun v=>by kernel_rfl
theorem ruh16:Q 8 16:=fun v=>by kernel_rfl
theorem ruh48:Q 8 48:=fun v=>by kernel_rfl
theorem rug16:Q 7 16:=fun v=>by kernel_rfl
theorem rue0:Q 5 0:=fun v=>by kernel_rfl
end Go.Proofs.YtoeeackjlclneaaGreatDoor
