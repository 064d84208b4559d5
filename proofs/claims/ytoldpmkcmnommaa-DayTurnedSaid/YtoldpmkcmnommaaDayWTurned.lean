/-
  The walk of DayTurned.
-/
import Derived.Test.YtoldpmkcmnommaaDayLaws
import Derived.RegionTactic
import Derived.ChangeAlike
namespace Go.Proofs.Ytoldpmkcmnommaa
open Go.RowKit

set_option maxHeartbeats 1000000 in
theorem walkDayTurned (a0 : Int) (w0 : (Lit.int .i64 a0).wf = true) (a1 : Int) (w1 : (Lit.int .i64 a1).wf = true) (a2 : Int) (w2 : (Lit.int .u8 a2).wf = true) (w : World) :
    Calls Try.prog 6 #[.int .i64 a0, .int .i64 a1, .int .u8 a2] w fun e w' => e = .returned (.bool true) ∧ Aft w w' := by
  have hb := bounds_i64 w0
  have hb1 := bounds_i64 w1
  have hb2 := bounds_u8 w2
  clear w0 w1 w2
  go_enter Try.func6, Try.ntmps6
  go_wp2_with fail
  refine (within_any _ 0 2145916799 hb.1 hb.2 (by decide) (by decide) (by decide) _).mono ?_
  rintro e w1 ⟨k, rfl, k0, k1, rfl⟩
  go_wp2_with fail
  have hl1 := showF_len k k0 k1
  refine (show_any k (by omega) (by omega) _).mono ?_
  rintro e w1 ⟨rfl, b1⟩
  go_wp2_with fail
  refine (within_any _ 0 28 hb1.1 hb1.2 (by decide) (by decide) (by decide) _).mono ?_
  rintro e w2 ⟨i, rfl, i0, i1, rfl⟩
  go_wp2_with fail
  have hcv := conv1_at a2 hb2.1 (by omega)
  have e1 : IntKind.i64.wrap (i + 1) = i + 1 := IntWalk.i64_in _ (by omega)
  have i2 : i ≤ 29 := by omega
  have i3 : 0 ≤ i + 1 := by omega
  have i4 : i + 1 ≤ 29 := by omega
  go_region
  all_goals go_wp2_with fail
  generalize hT : (ByteArray.extract ⟨(showF k).toArray⟩ 0 i.toNat ++ (⟨#[byteOf a2]⟩ : ByteArray) ++ ByteArray.extract ⟨(showF k).toArray⟩ (i + 1).toNat 29) = T
  have hsz : T.size ≤ 100 := by
    rw [← hT]
    have z1 : (⟨#[byteOf a2]⟩ : ByteArray).size = 1 := rfl
    have z2 : (⟨(showF k).toArray⟩ : ByteArray).size = 29 := hl1
    rw [ByteArray.size_append, ByteArray.size_append, ByteArray.size_extract, ByteArray.size_extract]
    omega
  clear hT hcv
  cases hr : Dp.readF T.data.toList with | mk a ok => ?_
  refine (read_of T a ok hr _ (by omega)).mono ?_
  rintro e w3 ⟨rfl, b3⟩
  have bw : Aft w w3 := (b1.trans (((Aft.refl _).alloc _).drew)).trans b3
  clear b1 b3
  by_cases he : T.data.toList = showF k
  · rw [he, read_show k k0 k1] at hr
    obtain ⟨rfl, rfl⟩ := Prod.mk.inj hr
    clear hr
    have hq : (showF k == T.toList) = true := by rw [Lib.toList_data, he]; simp
    clear he
    go_wp2_with (go_at_call 3; refine (dayruns_any _).mono ?_; rintro e w7 ⟨rfl, b7⟩)
    go_ret
    exact ⟨rfl, bw.trans b7⟩
  · have hq : (showF k == T.toList) = false := by
      rw [Lib.toList_data, beq_eq_false_iff_ne]
      exact fun h => he h.symm
    cases ok
    · clear hr he
      go_wp2_with (go_at_call 3; refine (dayruns_any _).mono ?_; rintro e w7 ⟨rfl, b7⟩)
      go_ret
      exact ⟨rfl, bw.trans b7⟩
    · have hne : (a == k) = false := by
        rw [beq_eq_false_iff_ne]
        intro e
        subst e
        exact he (show_read hr).1.symm
      clear hr he
      go_wp2_with (go_at_call 3; refine (dayruns_any _).mono ?_; rintro e w7 ⟨rfl, b7⟩)
      go_ret
      exact ⟨rfl, bw.trans b7⟩

end Go.Proofs.Ytoldpmkcmnommaa
