/-
  FieldsRuns.
-/
import Derived.Test.YtahjoiphajkdcaaDoorFldStatic
namespace Go.Proofs.YtahjoiphajkdcaaDoor
open Go.RowKit
set_option linter.unusedVariables false

set_option maxHeartbeats 2000000 in
theorem is_true (i : Int) (h0 : -9223372036854775808 ≤ i) (h1 : i ≤ 9223372036854775807) (name value : ByteArray) (hf : fieldV (statF i) = .agg #[.string name, .string value]) (hb : statB i = true) (w : World) (hm : MaxOk w) :
    Calls Tryd.prog 14 #[.int .i64 i, .string name, .string value] w fun e w' => e = .returned (.bool true) ∧ Aft w w' := by
  have HS := Lib.hid (static_any i h0 h1)
  rw [hf, hb] at HS
  clear hf hb
  go_enter Tryd.func14, Tryd.ntmps14
  go_wp2_with fail
  refine (HS.out _ hm).mono ?_
  rintro e w1 ⟨rfl, b1⟩
  have HB := Lib.hid b1
  clear b1
  go_wp2_with fail
  go_ret
  exact ⟨rfl, HB.out.alloc _⟩

theorem sum_none (w : World) : Calls Tryd.prog 9 #[.slice none 0 0] w fun e w' => e = .returned (.int .i64 0) ∧ Aft w w' :=
  sum_any _ [] w (Or.inl ⟨rfl, rfl⟩) (by decide)
theorem bytes_abc (w : World) : Calls Tryd.prog 8 #[.agg #[.string ⟨#[97]⟩, .string ⟨#[98, 99]⟩]] w fun e w' => e = .returned (.int .i64 35) ∧ Aft w w' :=
  bytes_any ([97], [98, 99]) (by decide) w
theorem static_zero (w : World) (hm : MaxOk w) : Calls Tryd.prog 4 #[.int .i64 0] w fun e w' => e = .returned (.tuple #[.agg #[.string ⟨#[]⟩, .string ⟨#[]⟩], .bool false]) ∧ Aft w w' :=
  static_any 0 (by decide) (by decide) w hm
theorem static_62 (w : World) (hm : MaxOk w) : Calls Tryd.prog 4 #[.int .i64 62] w fun e w' => e = .returned (.tuple #[.agg #[.string ⟨#[]⟩, .string ⟨#[]⟩], .bool false]) ∧ Aft w w' :=
  static_any 62 (by decide) (by decide) w hm
theorem is_2 (w : World) (hm : MaxOk w) : Calls Tryd.prog 14 #[.int .i64 2, .string ⟨#[58, 109, 101, 116, 104, 111, 100]⟩, .string ⟨#[71, 69, 84]⟩] w fun e w' => e = .returned (.bool true) ∧ Aft w w' :=
  is_true 2 (by decide) (by decide) ⟨#[58, 109, 101, 116, 104, 111, 100]⟩ ⟨#[71, 69, 84]⟩ (by kernel_rfl) (by kernel_rfl) w hm
theorem is_21 (w : World) (hm : MaxOk w) : Calls Tryd.prog 14 #[.int .i64 21, .string ⟨#[97, 103, 101]⟩, .string ⟨#[]⟩] w fun e w' => e = .returned (.bool true) ∧ Aft w w' :=
  is_true 21 (by decide) (by decide) ⟨#[97, 103, 101]⟩ ⟨#[]⟩ (by kernel_rfl) (by kernel_rfl) w hm
theorem is_61 (w : World) (hm : MaxOk w) : Calls Tryd.prog 14 #[.int .i64 61, .string ⟨#[119, 119, 119, 45, 97, 117, 116, 104, 101, 110, 116, 105, 99, 97, 116, 101]⟩, .string ⟨#[]⟩] w fun e w' => e = .returned (.bool true) ∧ Aft w w' :=
  is_true 61 (by decide) (by decide) ⟨#[119, 119, 119, 45, 97, 117, 116, 104, 101, 110, 116, 105, 99, 97, 116, 101]⟩ ⟨#[]⟩ (by kernel_rfl) (by kernel_rfl) w hm

set_option maxHeartbeats 2000000 in
theorem runs_any (w : World) (hm : MaxOk w) : Calls Tryd.prog 11 #[] w fun e w' => e = .returned (.bool true) ∧ Aft w w' := by
  have HM := Lib.hid hm
  clear hm
  go_enter Tryd.func11, Tryd.ntmps11
  go_wp2_with fail
  refine (static_zero _ HM.out).mono ?_
  rintro e w1 ⟨rfl, b1⟩
  have HA := Lib.hid (b1.alloc (.cells #[.string ⟨#[]⟩, .string ⟨#[]⟩] 24))
  clear b1
  go_wp2_with fail
  refine (static_62 _ (HM.out.aft HA.out)).mono ?_
  rintro e w2 ⟨rfl, b2⟩
  have HB := Lib.hid (HA.out.trans (b2.alloc (.cells #[.string ⟨#[]⟩, .string ⟨#[]⟩] 24)))
  clear b2 HA
  go_wp2_with fail
  refine (is_2 _ (HM.out.aft HB.out)).mono ?_
  rintro e w3 ⟨rfl, b3⟩
  have HC := Lib.hid (HB.out.trans b3)
  clear b3 HB
  go_wp2_with fail
  refine (is_21 _ (HM.out.aft HC.out)).mono ?_
  rintro e w4 ⟨rfl, b4⟩
  have HD := Lib.hid (HC.out.trans b4)
  clear b4 HC
  go_wp2_with fail
  refine (is_61 _ (HM.out.aft HD.out)).mono ?_
  rintro e w5 ⟨rfl, b5⟩
  have HE := Lib.hid (HD.out.trans b5)
  clear b5 HD
  go_wp2_with fail
  refine (bytes_abc _).mono ?_
  rintro e w6 ⟨rfl, b6⟩
  have HF := Lib.hid (HE.out.trans b6)
  clear b6 HE
  go_wp2_with fail
  refine (sum_none _).mono ?_
  rintro e w7 ⟨rfl, b7⟩
  have HG := Lib.hid (HF.out.trans b7)
  clear b7 HF
  go_wp2_with fail
  go_ret
  exact ⟨rfl, HG.out⟩

theorem maxOk_of (w : World) (h : w.ShapedOpen Tryd.prog) : MaxOk w :=
  Go.Proofs.cell_of_shapedOpen_int (zero := #[.int .i64 0]) (t := 3) h (of_decide_eq_true (by kernel_rfl)) (by kernel_rfl) rfl (by kernel_rfl) (by kernel_rfl) Tryd.underlying3
theorem walkFieldsRuns (w : World) (hsh : w.ShapedOpen Tryd.prog) : Calls Tryd.prog 11 #[] w fun e w' => e = .returned (.bool true) ∧ Aft w w' :=
  runs_any w (maxOk_of w hsh)

end Go.Proofs.YtahjoiphajkdcaaDoor
