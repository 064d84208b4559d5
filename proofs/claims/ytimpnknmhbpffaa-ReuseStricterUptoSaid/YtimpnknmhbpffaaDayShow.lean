/-
  The walks of day.put and of the reference's two: numbers written as digits.
-/
import Derived.Test.YtimpnknmhbpffaaConv
import Derived.Test.YtimpnknmhbpffaaDayRead
import Derived.Deep.RegionHeld3
import Derived.Deep.DeepCutAuto
import Derived.IntWalk
namespace Go.Proofs.Ytimpnknmhbpffaa
open Go.RowKit

def dgt (n : Int) : UInt8 := byteOf (48 + n % 10)
def putF : Nat → Int → List UInt8 → List UInt8
  | 0, _, acc => acc
  | k + 1, n, acc => putF k (n / 10) (dgt n :: acc)

theorem cat1 (b : UInt8) (l : List UInt8) : (⟨#[b]⟩ : ByteArray) ++ (⟨l.toArray⟩ : ByteArray) = ⟨(b :: l).toArray⟩ := by
  apply bytes_ext
  rw [ByteArray.data_append]
  simp

def PutRel (w : World) (k : Nat) (n : Int) (v s c : Value) (wr : World) : Prop :=
  ∃ (j : Nat) (m : Int) (acc : List UInt8), j ≤ k ∧ c = .int .i64 (j : Int) ∧ v = .int .i64 m ∧ s = .string ⟨acc.toArray⟩ ∧ 0 ≤ m ∧ m ≤ 10000000 ∧ acc.length ≤ 10 + j ∧ putF (k - j) m acc = putF k n [] ∧ Aft w wr

set_option maxHeartbeats 1000000 in
theorem d_put_any (n : Int) (k : Nat) (h0 : 0 ≤ n) (h1 : n ≤ 10000000) (hk : k ≤ 10) (w : World) :
    Calls Try.prog 55 #[.int .i64 n, .int .i64 k] w fun e w' => e = .returned (.string ⟨(putF k n []).toArray⟩) ∧ Aft w w' := by
  go_enter Try.func55, Try.ntmps55
  go_wp2
  go_loopw [0, 5, 7] (fun v s c wr => PutRel w k n v s c wr) (fun _ _ c _ => k - (intOf c).toNat)
  case atStart => exact ⟨0, n, [], by omega, by go_num, rfl, rfl, h0, h1, by simp, rfl, Aft.refl _⟩
  case round =>
    obtain ⟨j, m, acc, hj, rfl, rfl, rfl, hm0, hm1, hacc, hput, haft⟩ := hrel
    have HP := Lib.hid hput
    clear hput
    by_cases hlt : j < k
    · have hcv := fun W : World => conv1 W (48 + m % 10) (by omega) (by omega)
      go_wp2
      go_roundw
      case rel =>
        rw [cat1]
        refine ⟨j + 1, m / 10, _, by omega, by go_num, rfl, rfl, by omega, by omega, by simp; omega, ?_, haft.alloc _⟩
        rw [← HP.out, show k - j = (k - (j + 1)) + 1 by omega]
        rfl
      case measure => simp [intOf]; omega
    · go_wp2
      go_ret
      have := HP.out
      rw [show k - j = 0 by omega] at this
      rw [← this]
      exact ⟨rfl, haft⟩

theorem put2 (n : Int) : putF 2 n [] = [dgt (n / 10), dgt n] := rfl
theorem put_two (n : Int) (h0 : 0 ≤ n) (h1 : n ≤ 10000000) (w : World) :
    Calls Try.prog 55 #[.int .i64 n, .int .i64 2] w fun e w' => e = .returned (.string ⟨(putF 2 n []).toArray⟩) ∧ Aft w w' := d_put_any n 2 h0 h1 (by decide) w
theorem put_four (n : Int) (h0 : 0 ≤ n) (h1 : n ≤ 10000000) (w : World) :
    Calls Try.prog 55 #[.int .i64 n, .int .i64 4] w fun e w' => e = .returned (.string ⟨(putF 4 n []).toArray⟩) ∧ Aft w w' := d_put_any n 4 h0 h1 (by decide) w
theorem slice_in (s : ByteArray) (a b : Int) (h0 : 0 ≤ a) (h1 : a ≤ b) (h2 : b ≤ s.size) (w : World) :
    (Instr.slice 9 (.string s) (some (.int .i64 a)) (some (.int .i64 b)) none).run Try.prog w = .ok (.string (s.extract a.toNat b.toNat)) w :=
  run_slice_string w _ s .i64 .i64 a b Try.underlying9 h0 h1 h2
def weekB : ByteArray := ⟨#[84, 104, 117, 70, 114, 105, 83, 97, 116, 83, 117, 110, 77, 111, 110, 84, 117, 101, 87, 101, 100]⟩
def monthsB : ByteArray := ⟨#[74, 97, 110, 70, 101, 98, 77, 97, 114, 65, 112, 114, 77, 97, 121, 74, 117, 110, 74, 117, 108, 65, 117, 103, 83, 101, 112, 79, 99, 116, 78, 111, 118, 68, 101, 99]⟩
theorem size_mk (a : Array UInt8) : (⟨a⟩ : ByteArray).size = a.size := rfl
theorem putF_len : ∀ (k : Nat) (n : Int) (acc : List UInt8), (putF k n acc).length = k + acc.length
  | 0, _, acc => by simp [putF]
  | k + 1, n, acc => by rw [putF, putF_len k]; simp; omega
/-- The text of a date: the place in the week, the day of the month from 0 on, the month, the year, the second of the day. -/
def dateL (w d m y s : Int) : List UInt8 :=
  (Dp.weekL.drop (3 * w).toNat).take 3 ++ [44, 32] ++ putF 2 (d + 1) [] ++ [32] ++ (Dp.monthsL.drop (3 * m).toNat).take 3 ++ [32] ++ putF 4 y [] ++ [32] ++ putF 2 (s / 3600) [] ++ [58] ++ putF 2 (s / 60 % 60) [] ++ [58] ++ putF 2 (s % 60) [] ++ [32, 71, 77, 84]
def showF (n : Int) : List UInt8 :=
  let D := Dp.clamp n / 86400
  let a := Dp.goY 100 0 D
  let b := Dp.goM (1970 + (a.1 : Int)) 20 0 a.2
  dateL (D % 7) b.2 b.1 (1970 + (a.1 : Int)) (Dp.clamp n % 86400)

theorem week_cut (W : Int) (h0 : 0 ≤ W) : (ByteArray.extract ⟨#[84, 104, 117, 70, 114, 105, 83, 97, 116, 83, 117, 110, 77, 111, 110, 84, 117, 101, 87, 101, 100]⟩ (3 * W).toNat (3 * W + 3).toNat).data.toList = (Dp.weekL.drop (3 * W).toNat).take 3 := by
  rw [Lib.extract_data, show (3 * W + 3).toNat - (3 * W).toNat = 3 by omega]
  rfl
theorem months_cut (W : Int) (h0 : 0 ≤ W) : (ByteArray.extract ⟨#[74, 97, 110, 70, 101, 98, 77, 97, 114, 65, 112, 114, 77, 97, 121, 74, 117, 110, 74, 117, 108, 65, 117, 103, 83, 101, 112, 79, 99, 116, 78, 111, 118, 68, 101, 99]⟩ (3 * W).toNat (3 * W + 3).toNat).data.toList = (Dp.monthsL.drop (3 * W).toNat).take 3 := by
  rw [Lib.extract_data, show (3 * W + 3).toNat - (3 * W).toNat = 3 by omega]
  rfl
theorem mk_list (l : List UInt8) : (⟨l.toArray⟩ : ByteArray).data.toList = l := rfl
theorem data_cat (a b : ByteArray) : (a ++ b).data.toList = a.data.toList ++ b.data.toList := by
  rw [ByteArray.data_append, Array.toList_append]
theorem showF_eq {n c W S d q y : Int} {k j : Nat} (hc : Dp.clamp n = c) (hW : c / 86400 % 7 = W) (hS : c % 86400 = S) (hY : Dp.goY 100 0 (c / 86400) = (k, d)) (hy : 1970 + (k : Int) = y) (hM : Dp.goM y 20 0 d = (j, q)) : showF n = dateL W q j y S := by
  unfold showF
  rw [hc]
  simp only [hY, hy, hM, hW, hS]

set_option maxHeartbeats 2000000 in
theorem show_any (n : Int) (h0 : -9223372036854775808 ≤ n) (h1 : n ≤ 9223372036854775807) (w : World) :
    Calls Try.prog 25 #[.int .i64 n] w fun e w' => e = .returned (.string ⟨(showF n).toArray⟩) ∧ Aft w w' := by
  have hcl : (if n < 0 then (0 : Int) else if 2147483647 < n then 2147483647 else n) = Dp.clamp n := rfl
  have HCL := Lib.hid hcl
  clear hcl
  have hcb := Dp.clamp_bd n
  generalize hc : Dp.clamp n = c at *
  have HC := Lib.hid hc
  clear hc
  go_enter Try.func25, Try.ntmps25
  go_upto_region 1 with fail
  go_cut [0] (fun v wx => v = .int .i64 c ∧ w = wx)
  case first =>
    have hcl := HCL.out
    clear HCL
    go_wp2_with fail
    all_goals
      go_meet
      refine ⟨?_, rfl⟩
      congr 1
      split at hcl <;> (try split at hcl) <;> (first | omega | (split at * <;> omega))
  case rest =>
    obtain ⟨rfl, rfl⟩ := hcut
    clear HCL
    go_wp2_with fail
    have hD0 : 0 ≤ c / 86400 := by omega
    have hD1 : c / 86400 ≤ 24856 := by omega
    go_loop [3, 6] (fun v y => ∃ (k : Nat) (d : Int), k ≤ 69 ∧ v = .int .i64 d ∧ y = .int .i64 (1970 + (k : Int)) ∧ 0 ≤ d ∧ d ≤ 24856 ∧ Hid (d + Dp.sumY k = c / 86400) ∧ Hid (Dp.goY (100 - k) k d = Dp.goY 100 0 (c / 86400))) (fun v _ => (intOf v).toNat)
    case atStart => exact ⟨0, _, by omega, rfl, by go_num, hD0, hD1, by simp [Dp.sumY]; exact Lib.hid trivial, Lib.hid rfl⟩
    case round =>
      obtain ⟨k, d, hk, rfl, rfl, hd0, hd1, HS, HG⟩ := hrel
      have hyb := Dp.yearF_bd (1970 + (k : Int))
      by_cases hlt : d < Dp.yearF (1970 + (k : Int))
      · go_wp2_with (go_at_call 53; refine (year_any (1970 + (k : Int)) (by omega) (by omega) _).mono ?_; rintro e w' ⟨rfl, rfl⟩)
        have hY : Dp.goY 100 0 (c / 86400) = (k, d) := by rw [← HG.out]; exact Dp.goY_stop hlt
        have HY := Lib.hid hY
        clear hY hyb
        have hy0 : 0 ≤ 1970 + (k : Int) := by omega
        have hy1 : 1970 + (k : Int) ≤ 2100 := by omega
        have HLT := Lib.hid hlt
        clear hlt
        generalize hyy : 1970 + (k : Int) = y at *
        have HYY := Lib.hid hyy
        clear hyy
        go_loop [3, 7] (fun v m => ∃ (j : Nat) (q : Int), j ≤ 11 ∧ v = .int .i64 q ∧ m = .int .i64 (j : Int) ∧ 0 ≤ q ∧ q ≤ 400 ∧ Hid (q + Dp.sumM y j = d) ∧ Hid (Dp.goM y (20 - j) j q = Dp.goM y 20 0 d)) (fun v _ => (intOf v).toNat)
        case atStart =>
          have h1 := Dp.yearF_bd y
          have h2 := HLT.out
          exact ⟨0, _, by omega, rfl, by go_num, hd0, by omega, by simp [Dp.sumM]; exact Lib.hid trivial, Lib.hid rfl⟩
        case round =>
          obtain ⟨j, q, hj, rfl, rfl, hq0, hq1, HS2, HG2⟩ := hrel
          have hlb := Dp.lenF_bd y j
          by_cases hlm : q < Dp.lenF y j
          · go_wp2_with (go_at_call 54; refine (length_any y j hy0 (by omega) (by omega) (by omega) _).mono ?_; rintro e w' ⟨rfl, rfl⟩)
            have hM : Dp.goM y 20 0 d = (j, q) := by rw [← HG2.out]; exact Dp.goM_stop hlm
            have HM := Lib.hid hM
            clear hM hlm hlb
            have hw0 : 0 ≤ c / 86400 % 7 := by omega
            have hw1 : c / 86400 % 7 ≤ 6 := by omega
            have hs0 : 0 ≤ c % 86400 := by omega
            have hs1 : c % 86400 ≤ 86399 := by omega
            generalize hwx : c / 86400 % 7 = W at *
            have HW := Lib.hid hwx
            clear hwx
            generalize hsx : c % 86400 = S at *
            have HSX := Lib.hid hsx
            clear hsx
            have e1 : IntKind.i64.wrap (3 * W) = 3 * W := IntWalk.i64_in _ (by omega)
            have e2 : IntKind.i64.wrap (3 * W + 3) = 3 * W + 3 := IntWalk.i64_in _ (by omega)
            have e3 : IntKind.i64.wrap (q + 1) = q + 1 := IntWalk.i64_in _ (by omega)
            have e4 : IntKind.i64.wrap (3 * (j : Int)) = 3 * (j : Int) := IntWalk.i64_in _ (by omega)
            have e5 : IntKind.i64.wrap (3 * (j : Int) + 3) = 3 * (j : Int) + 3 := IntWalk.i64_in _ (by omega)
            have s1 := slice_in ⟨#[84, 104, 117, 70, 114, 105, 83, 97, 116, 83, 117, 110, 77, 111, 110, 84, 117, 101, 87, 101, 100]⟩ (3 * W) (3 * W + 3) (by omega) (by omega) (by show _ ≤ ((21 : Nat) : Int); omega)
            have s2 := slice_in ⟨#[74, 97, 110, 70, 101, 98, 77, 97, 114, 65, 112, 114, 77, 97, 121, 74, 117, 110, 74, 117, 108, 65, 117, 103, 83, 101, 112, 79, 99, 116, 78, 111, 118, 68, 101, 99]⟩ (3 * (j : Int)) (3 * (j : Int) + 3) (by omega) (by omega) (by show _ ≤ ((36 : Nat) : Int); omega)
            have hm := size_mk
            have hp2 := fun n => putF_len 2 n []
            have hp4 := fun n => putF_len 4 n []
            have hx1 : min ((3 * W + 3).toNat - (3 * W).toNat) (21 - (3 * W).toNat) = 3 := by omega
            have hx2 : min ((3 * (j : Int) + 3).toNat - (3 * (j : Int)).toNat) (36 - (3 * (j : Int)).toNat) = 3 := by omega
            have b1 : 0 ≤ 3 * W := by omega
            have b2 : 3 * W + 3 ≤ 21 := by omega
            have b3 : 0 ≤ 3 * W + 3 := by omega
            have b4 : 0 ≤ 3 * (j : Int) + 3 := by omega
            have b5 : 3 * (j : Int) + 3 ≤ 36 := by omega
            have b6 : 0 ≤ 3 * (j : Int) := by omega
            have e6 : S.tdiv 3600 = S / 3600 := Int.tdiv_eq_ediv_of_nonneg hs0
            have e7 : S.tdiv 60 = S / 60 := Int.tdiv_eq_ediv_of_nonneg hs0
            have e8 : (S / 60).tmod 60 = S / 60 % 60 := Int.tmod_eq_emod_of_nonneg (by omega)
            have e9 : S.tmod 60 = S % 60 := Int.tmod_eq_emod_of_nonneg hs0
            have e10 : IntKind.i64.wrap (S / 3600) = S / 3600 := IntWalk.i64_in _ (by omega)
            have e11 : IntKind.i64.wrap (S / 60) = S / 60 := IntWalk.i64_in _ (by omega)
            go_region_held3 (fun _ => True) (exact trivial)
              (first
                | (go_at_call 55; with_reducible refine (put_two _ (by omega) (by omega) _).mono ?_; rintro e w' ⟨rfl, ha⟩)
                | (go_at_call 55; with_reducible refine (put_four _ (by omega) (by omega) _).mono ?_; rintro e w' ⟨rfl, ha⟩))
            go_wp2
            go_ret
            rw [showF_eq HC.out HW.out HSX.out HY.out HYY.out HM.out]
            refine ⟨ret_str ?_, ?_⟩
            · apply bytes_ext
              simp only [data_cat, week_cut W hw0, months_cut (j : Int) (by omega)]
              rfl
            · repeat (first | exact Aft.refl _ | assumption | refine Aft.trans ?_ (by assumption) | apply Aft.drew | apply Aft.drewN)
          · have hge : Dp.lenF y j ≤ q := by omega
            go_wp2_with (go_at_call 54; refine (length_any y j hy0 (by omega) (by omega) (by omega) _).mono ?_; rintro e w' ⟨rfl, rfl⟩)
            go_round
            case rel =>
              have h1 := HS2.out
              have h2 := HLT.out
              have h3 : Dp.sumM y (j + 1) = Dp.sumM y j + Dp.lenF y j := rfl
              have h4 : j ≠ 11 := by
                intro e
                subst e
                have h5 := Dp.sumM_year y
                have h6 : Dp.sumM y 12 = Dp.sumM y 11 + Dp.lenF y ((11 : Nat) : Int) := rfl
                omega
              refine ⟨j + 1, _, by omega, rfl, by go_num, by omega, by omega, ?_, ?_⟩
              · exact Lib.hid (by omega)
              · rw [← HG2.out, show 20 - j = (20 - (j + 1)) + 1 by omega, Dp.goM_next (by omega)]
                exact Lib.hid rfl
            case measure => simp [intOf]; omega
      · have hge : Dp.yearF (1970 + (k : Int)) ≤ d := by omega
        go_wp2_with (go_at_call 53; refine (year_any (1970 + (k : Int)) (by omega) (by omega) _).mono ?_; rintro e w' ⟨rfl, rfl⟩)
        go_round
        case rel =>
          have h1 := HS.out
          have h2 := Dp.sumY_bd (k + 1)
          have h3 : Dp.sumY (k + 1) = Dp.sumY k + Dp.yearF (1970 + (k : Int)) := rfl
          refine ⟨k + 1, _, by omega, rfl, by go_num, by omega, by omega, ?_, ?_⟩
          · exact Lib.hid (by omega)
          · rw [← HG.out, show 100 - k = (100 - (k + 1)) + 1 by omega, Dp.goY_next (by omega)]
            exact Lib.hid rfl
        case measure => simp [intOf]; omega

end Go.Proofs.Ytimpnknmhbpffaa
