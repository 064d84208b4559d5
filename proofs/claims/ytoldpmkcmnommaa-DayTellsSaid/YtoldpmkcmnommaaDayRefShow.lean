/-
  The walk of the reference's Show.
-/
import Derived.Test.YtoldpmkcmnommaaDayAgree
import Derived.Deep.RegionHeld3
import Derived.Deep.DeepCutAuto
import Derived.IntWalk
namespace Go.Proofs.Ytoldpmkcmnommaa
open Go.RowKit

theorem put4 (y : Int) : putF 4 y [] = putF 2 (y / 100) [] ++ putF 2 y [] := by
  show [dgt (y / 10 / 10 / 10), dgt (y / 10 / 10), dgt (y / 10), dgt y] = [dgt (y / 100 / 10), dgt (y / 100), dgt (y / 10), dgt y]
  rw [show y / 10 / 10 = y / 100 by omega]

set_option maxRecDepth 100000 in
set_option maxHeartbeats 2000000 in
theorem refshow_any (n : Int) (h0 : -9223372036854775808 ≤ n) (h1 : n ≤ 9223372036854775807) (w : World) :
    Calls Try.prog 12 #[.int .i64 n] w fun e w' => e = .returned (.string ⟨(showF n).toArray⟩) ∧ Aft w w' := by
  have hcl : (if n < 0 then (0 : Int) else if 2147483647 < n then 2147483647 else n) = Dp.clamp n := rfl
  have HCL := Lib.hid hcl
  clear hcl
  have hcb := Dp.clamp_bd n
  generalize hc : Dp.clamp n = c at *
  have HC := Lib.hid hc
  clear hc
  go_enter Try.func12, Try.ntmps12
  go_upto_region 1 with fail
  go_cut [0] (fun v wx => v = .int .i64 c ∧ w = wx)
  case first =>
    have hcl := HCL.out
    clear HCL
    go_wp2_with fail
    all_goals
      go_meet
      refine ⟨?_, rfl⟩
      congr 1
      split at hcl <;> (try split at hcl) <;> (first | omega | (split at * <;> omega))
  case rest =>
    obtain ⟨rfl, rfl⟩ := hcut
    clear HCL
    go_wp2_with fail
    have hD0 : 0 ≤ c / 86400 := by omega
    have hD1 : c / 86400 ≤ 24856 := by omega
    have hw0 : 0 ≤ c / 86400 % 7 := by omega
    have hw1 : c / 86400 % 7 ≤ 6 := by omega
    have hs0 : 0 ≤ c % 86400 := by omega
    have hs1 : c % 86400 ≤ 86399 := by omega
    generalize hwx : c / 86400 % 7 = W at *
    have HW := Lib.hid hwx
    clear hwx
    generalize hsx : c % 86400 = S at *
    have HSX := Lib.hid hsx
    clear hsx
    go_loop [3, 7] (fun v y => ∃ (k : Nat) (d : Int), k ≤ 69 ∧ v = .int .i64 d ∧ y = .int .i64 (1970 + (k : Int)) ∧ 0 ≤ d ∧ d ≤ 24856 ∧ Hid (d + Dp.sumY k = c / 86400) ∧ Hid (Dp.goY (100 - k) k d = Dp.goY 100 0 (c / 86400))) (fun v _ => (intOf v).toNat)
    case atStart => exact ⟨0, _, by omega, rfl, by go_num, hD0, hD1, by simp [Dp.sumY]; exact Lib.hid trivial, Lib.hid rfl⟩
    case round =>
      obtain ⟨k, d, hk, rfl, rfl, hd0, hd1, HS, HG⟩ := hrel
      have hyb := Dp.yearF_bd (1970 + (k : Int))
      by_cases hlp : (1970 + (k : Int)) % 4 = 0
      all_goals
        have hlb := hlp
        first
          | (replace hlb : ((1970 + (k : Int)) % 4 == 0) = true := by simpa using hlp
             have hyf : Dp.yearF (1970 + (k : Int)) = 366 := by rw [Dp.yearF, if_pos hlp])
          | (replace hlb : ((1970 + (k : Int)) % 4 == 0) = false := by simpa using hlp
             have hyf : Dp.yearF (1970 + (k : Int)) = 365 := by rw [Dp.yearF, if_neg hlp])
        clear hlp
        have HYF := Lib.hid hyf
        by_cases hlt : d < Dp.yearF (1970 + (k : Int))
        · have hY : Dp.goY 100 0 (c / 86400) = (k, d) := by rw [← HG.out]; exact Dp.goY_stop hlt
          have HY := Lib.hid hY
          have HLT := Lib.hid hlt
          rw [hyf] at hlt
          clear hY hyb hyf
          have hy0 : 0 ≤ 1970 + (k : Int) := by omega
          have hy1 : 1970 + (k : Int) ≤ 2100 := by omega
          go_wp2_with fail
          clear hlt hlb HYF
          generalize hyy : 1970 + (k : Int) = y at *
          have HYY := Lib.hid hyy
          clear hyy
          go_loop [3, 9] (fun v m => ∃ (j : Nat) (q : Int), j ≤ 11 ∧ v = .int .i64 q ∧ m = .int .i64 (j : Int) ∧ 0 ≤ q ∧ q ≤ 400 ∧ Hid (q + Dp.sumM y j = d) ∧ Hid (Dp.goM y (20 - j) j q = Dp.goM y 20 0 d)) (fun v _ => (intOf v).toNat)
          case atStart =>
            have h1 := Dp.yearF_bd y
            have h2 := HLT.out
            exact ⟨0, _, by omega, rfl, by go_num, hd0, by omega, by simp [Dp.sumM]; exact Lib.hid trivial, Lib.hid rfl⟩
          case round =>
            obtain ⟨j, q, hj, rfl, rfl, hq0, hq1, HS2, HG2⟩ := hrel
            have hlb := Dp.lenF_bd y j
            by_cases hlm : q < Dp.lenF y j
            · go_wp2_with (go_at_call 21; refine (reflength_any y j hy0 (by omega) (by omega) (by omega) _).mono ?_; rintro e w' ⟨rfl, rfl⟩)
              have hM : Dp.goM y 20 0 d = (j, q) := by rw [← HG2.out]; exact Dp.goM_stop hlm
              have HM := Lib.hid hM
              clear hM hlm hlb
              have s2 := slice_in ⟨#[74, 97, 110, 70, 101, 98, 77, 97, 114, 65, 112, 114, 77, 97, 121, 74, 117, 110, 74, 117, 108, 65, 117, 103, 83, 101, 112, 79, 99, 116, 78, 111, 118, 68, 101, 99]⟩ (3 * (j : Int)) (3 * (j : Int) + 3) (by omega) (by omega) (by show _ ≤ ((36 : Nat) : Int); omega)
              have hm := size_mk
              have hp2 := fun n => putF_len 2 n []
              have hx1 : min ((3 * W + 3).toNat - (3 * W).toNat) (21 - (3 * W).toNat) = 3 := by omega
              have hx2 : min ((3 * (j : Int) + 3).toNat - (3 * (j : Int)).toNat) (36 - (3 * (j : Int)).toNat) = 3 := by omega
              have e3 : IntKind.i64.wrap (q + 1) = q + 1 := IntWalk.i64_in _ (by omega)
              have e4 : IntKind.i64.wrap (3 * (j : Int)) = 3 * (j : Int) := IntWalk.i64_in _ (by omega)
              have e5 : IntKind.i64.wrap (3 * (j : Int) + 3) = 3 * (j : Int) + 3 := IntWalk.i64_in _ (by omega)
              have e6 : S.tdiv 3600 = S / 3600 := Int.tdiv_eq_ediv_of_nonneg hs0
              have e7 : S.tdiv 60 = S / 60 := Int.tdiv_eq_ediv_of_nonneg hs0
              have e8 : (S / 60).tmod 60 = S / 60 % 60 := Int.tmod_eq_emod_of_nonneg (by omega)
              have e9 : S.tmod 60 = S % 60 := Int.tmod_eq_emod_of_nonneg hs0
              have e10 : IntKind.i64.wrap (S / 3600) = S / 3600 := IntWalk.i64_in _ (by omega)
              have e11 : IntKind.i64.wrap (S / 60) = S / 60 := IntWalk.i64_in _ (by omega)
              have e12 : y.tdiv 100 = y / 100 := Int.tdiv_eq_ediv_of_nonneg hy0
              have e13 : IntKind.i64.wrap (y / 100) = y / 100 := IntWalk.i64_in _ (by omega)
              refine wp_region_held_drew (S := fun _ => True) (by kernel_rfl) trivial (fun hHeld => ?_)
              refine wpAnyH_take (i := 0) (oi := { dst := some 50, op := Go.Op.move (Go.Operand.tmp 6), type := 9, pos := _, after := _, guard := _ }) (v := ?_) rfl (by kernel_rfl) (by kernel_rfl) (by kernel_rfl) (fun _ _ _ h => h) (Or.inl ⟨by rfl, ?_⟩) trivial ?_
              rotate_left
              · intro w hSw; go_simp; try with_reducible rfl
              try simp only [Act.put, List.setIfInBounds_toArray, List.set_cons_zero, List.set_cons_succ]
              refine wpAnyH_take (i := 1) (oi := { dst := some 51, op := Go.Op.binOp Go.BinOp.add 9 (Go.Operand.tmp 50) (Go.Operand.const (Go.Value.string { data := #[44, 32] })) 9, type := 9, pos := _, after := _, guard := _ }) (v := ?_) rfl (by kernel_rfl) (by kernel_rfl) (by kernel_rfl) (fun _ _ _ h => h) (Or.inl ⟨by rfl, ?_⟩) trivial ?_
              rotate_left
              · intro w hSw; go_simp; try with_reducible rfl
              try simp only [Act.put, List.setIfInBounds_toArray, List.set_cons_zero, List.set_cons_succ]
              refine wpAnyH_take (i := 2) (oi := { dst := some 52, op := Go.Op.move (Go.Operand.tmp 3), type := 3, pos := _, after := _, guard := _ }) (v := ?_) rfl (by kernel_rfl) (by kernel_rfl) (by kernel_rfl) (fun _ _ _ h => h) (Or.inl ⟨by rfl, ?_⟩) trivial ?_
              rotate_left
              · intro w hSw; go_simp; try with_reducible rfl
              try simp only [Act.put, List.setIfInBounds_toArray, List.set_cons_zero, List.set_cons_succ]
              refine wpAnyH_take (i := 3) (oi := { dst := some 53, op := Go.Op.binOp Go.BinOp.add 3 (Go.Operand.tmp 52) (Go.Operand.const (Go.Value.int Go.IntKind.i64 1)) 3, type := 3, pos := _, after := _, guard := _ }) (v := ?_) rfl (by kernel_rfl) (by kernel_rfl) (by kernel_rfl) (fun _ _ _ h => h) (Or.inl ⟨by rfl, ?_⟩) trivial ?_
              rotate_left
              · intro w hSw; go_simp; try with_reducible rfl
              try simp only [Act.put, List.setIfInBounds_toArray, List.set_cons_zero, List.set_cons_succ]
              refine wpAnyH_take (i := 7) (oi := { dst := some 57, op := Go.Op.move (Go.Operand.tmp 10), type := 9, pos := _, after := _, guard := _ }) (v := ?_) rfl (by kernel_rfl) (by kernel_rfl) (by kernel_rfl) (fun _ _ _ h => h) (Or.inl ⟨by rfl, ?_⟩) trivial ?_
              rotate_left
              · intro w hSw; go_simp; try with_reducible rfl
              try simp only [Act.put, List.setIfInBounds_toArray, List.set_cons_zero, List.set_cons_succ]
              refine wpAnyH_take (i := 8) (oi := { dst := some 58, op := Go.Op.move (Go.Operand.tmp 9), type := 3, pos := _, after := _, guard := _ }) (v := ?_) rfl (by kernel_rfl) (by kernel_rfl) (by kernel_rfl) (fun _ _ _ h => h) (Or.inl ⟨by rfl, ?_⟩) trivial ?_
              rotate_left
              · intro w hSw; go_simp; try with_reducible rfl
              try simp only [Act.put, List.setIfInBounds_toArray, List.set_cons_zero, List.set_cons_succ]
              refine wpAnyH_take (i := 9) (oi := { dst := some 59, op := Go.Op.binOp Go.BinOp.mul 3 (Go.Operand.const (Go.Value.int Go.IntKind.i64 3)) (Go.Operand.tmp 58) 3, type := 3, pos := _, after := _, guard := _ }) (v := ?_) rfl (by kernel_rfl) (by kernel_rfl) (by kernel_rfl) (fun _ _ _ h => h) (Or.inl ⟨by rfl, ?_⟩) trivial ?_
              rotate_left
              · intro w hSw; go_simp; try with_reducible rfl
              try simp only [Act.put, List.setIfInBounds_toArray, List.set_cons_zero, List.set_cons_succ]
              refine wpAnyH_take (i := 10) (oi := { dst := some 60, op := Go.Op.move (Go.Operand.tmp 9), type := 3, pos := _, after := _, guard := _ }) (v := ?_) rfl (by kernel_rfl) (by kernel_rfl) (by kernel_rfl) (fun _ _ _ h => h) (Or.inl ⟨by rfl, ?_⟩) trivial ?_
              rotate_left
              · intro w hSw; go_simp; try with_reducible rfl
              try simp only [Act.put, List.setIfInBounds_toArray, List.set_cons_zero, List.set_cons_succ]
              refine wpAnyH_take (i := 11) (oi := { dst := some 61, op := Go.Op.binOp Go.BinOp.mul 3 (Go.Operand.const (Go.Value.int Go.IntKind.i64 3)) (Go.Operand.tmp 60) 3, type := 3, pos := _, after := _, guard := _ }) (v := ?_) rfl (by kernel_rfl) (by kernel_rfl) (by kernel_rfl) (fun _ _ _ h => h) (Or.inl ⟨by rfl, ?_⟩) trivial ?_
              rotate_left
              · intro w hSw; go_simp; try with_reducible rfl
              try simp only [Act.put, List.setIfInBounds_toArray, List.set_cons_zero, List.set_cons_succ]
              refine wpAnyH_take (i := 12) (oi := { dst := some 62, op := Go.Op.binOp Go.BinOp.add 3 (Go.Operand.tmp 61) (Go.Operand.const (Go.Value.int Go.IntKind.i64 3)) 3, type := 3, pos := _, after := _, guard := _ }) (v := ?_) rfl (by kernel_rfl) (by kernel_rfl) (by kernel_rfl) (fun _ _ _ h => h) (Or.inl ⟨by rfl, ?_⟩) trivial ?_
              rotate_left
              · intro w hSw; go_simp; try with_reducible rfl
              try simp only [Act.put, List.setIfInBounds_toArray, List.set_cons_zero, List.set_cons_succ]
              refine wpAnyH_take (i := 13) (oi := { dst := some 63, op := Go.Op.slice 9 (Go.Operand.tmp 57) (some (Go.Operand.tmp 59)) (some (Go.Operand.tmp 62)) none, type := 9, pos := _, after := _, guard := _ }) (v := ?_) rfl (by kernel_rfl) (by kernel_rfl) (by kernel_rfl) (fun _ _ _ h => h) (Or.inl ⟨by rfl, ?_⟩) trivial ?_
              rotate_left
              · intro w hSw; go_simp; try with_reducible rfl
              try simp only [Act.put, List.setIfInBounds_toArray, List.set_cons_zero, List.set_cons_succ]
              refine wpAnyH_take (i := 16) (oi := { dst := some 66, op := Go.Op.move (Go.Operand.tmp 7), type := 3, pos := _, after := _, guard := _ }) (v := ?_) rfl (by kernel_rfl) (by kernel_rfl) (by kernel_rfl) (fun _ _ _ h => h) (Or.inl ⟨by rfl, ?_⟩) trivial ?_
              rotate_left
              · intro w hSw; go_simp; try with_reducible rfl
              try simp only [Act.put, List.setIfInBounds_toArray, List.set_cons_zero, List.set_cons_succ]
              refine wpAnyH_take (i := 17) (oi := { dst := some 67, op := Go.Op.binOp Go.BinOp.quo 3 (Go.Operand.tmp 66) (Go.Operand.const (Go.Value.int Go.IntKind.i64 100)) 3, type := 3, pos := _, after := _, guard := _ }) (v := ?_) rfl (by kernel_rfl) (by kernel_rfl) (by kernel_rfl) (fun _ _ _ h => h) (Or.inl ⟨by rfl, ?_⟩) trivial ?_
              rotate_left
              · intro w hSw; go_simp; try with_reducible rfl
              try simp only [Act.put, List.setIfInBounds_toArray, List.set_cons_zero, List.set_cons_succ]
              refine wpAnyH_take (i := 20) (oi := { dst := some 70, op := Go.Op.move (Go.Operand.tmp 7), type := 3, pos := _, after := _, guard := _ }) (v := ?_) rfl (by kernel_rfl) (by kernel_rfl) (by kernel_rfl) (fun _ _ _ h => h) (Or.inl ⟨by rfl, ?_⟩) trivial ?_
              rotate_left
              · intro w hSw; go_simp; try with_reducible rfl
              try simp only [Act.put, List.setIfInBounds_toArray, List.set_cons_zero, List.set_cons_succ]
              refine wpAnyH_take (i := 24) (oi := { dst := some 74, op := Go.Op.move (Go.Operand.tmp 4), type := 3, pos := _, after := _, guard := _ }) (v := ?_) rfl (by kernel_rfl) (by kernel_rfl) (by kernel_rfl) (fun _ _ _ h => h) (Or.inl ⟨by rfl, ?_⟩) trivial ?_
              rotate_left
              · intro w hSw; go_simp; try with_reducible rfl
              try simp only [Act.put, List.setIfInBounds_toArray, List.set_cons_zero, List.set_cons_succ]
              refine wpAnyH_take (i := 25) (oi := { dst := some 75, op := Go.Op.binOp Go.BinOp.quo 3 (Go.Operand.tmp 74) (Go.Operand.const (Go.Value.int Go.IntKind.i64 3600)) 3, type := 3, pos := _, after := _, guard := _ }) (v := ?_) rfl (by kernel_rfl) (by kernel_rfl) (by kernel_rfl) (fun _ _ _ h => h) (Or.inl ⟨by rfl, ?_⟩) trivial ?_
              rotate_left
              · intro w hSw; go_simp; try with_reducible rfl
              try simp only [Act.put, List.setIfInBounds_toArray, List.set_cons_zero, List.set_cons_succ]
              refine wpAnyH_take (i := 29) (oi := { dst := some 79, op := Go.Op.move (Go.Operand.tmp 4), type := 3, pos := _, after := _, guard := _ }) (v := ?_) rfl (by kernel_rfl) (by kernel_rfl) (by kernel_rfl) (fun _ _ _ h => h) (Or.inl ⟨by rfl, ?_⟩) trivial ?_
              rotate_left
              · intro w hSw; go_simp; try with_reducible rfl
              try simp only [Act.put, List.setIfInBounds_toArray, List.set_cons_zero, List.set_cons_succ]
              refine wpAnyH_take (i := 30) (oi := { dst := some 80, op := Go.Op.binOp Go.BinOp.quo 3 (Go.Operand.tmp 79) (Go.Operand.const (Go.Value.int Go.IntKind.i64 60)) 3, type := 3, pos := _, after := _, guard := _ }) (v := ?_) rfl (by kernel_rfl) (by kernel_rfl) (by kernel_rfl) (fun _ _ _ h => h) (Or.inl ⟨by rfl, ?_⟩) trivial ?_
              rotate_left
              · intro w hSw; go_simp; try with_reducible rfl
              try simp only [Act.put, List.setIfInBounds_toArray, List.set_cons_zero, List.set_cons_succ]
              refine wpAnyH_take (i := 31) (oi := { dst := some 81, op := Go.Op.binOp Go.BinOp.rem 3 (Go.Operand.tmp 80) (Go.Operand.const (Go.Value.int Go.IntKind.i64 60)) 3, type := 3, pos := _, after := _, guard := _ }) (v := ?_) rfl (by kernel_rfl) (by kernel_rfl) (by kernel_rfl) (fun _ _ _ h => h) (Or.inl ⟨by rfl, ?_⟩) trivial ?_
              rotate_left
              · intro w hSw; go_simp; try with_reducible rfl
              try simp only [Act.put, List.setIfInBounds_toArray, List.set_cons_zero, List.set_cons_succ]
              refine wpAnyH_take (i := 35) (oi := { dst := some 85, op := Go.Op.move (Go.Operand.tmp 4), type := 3, pos := _, after := _, guard := _ }) (v := ?_) rfl (by kernel_rfl) (by kernel_rfl) (by kernel_rfl) (fun _ _ _ h => h) (Or.inl ⟨by rfl, ?_⟩) trivial ?_
              rotate_left
              · intro w hSw; go_simp; try with_reducible rfl
              try simp only [Act.put, List.setIfInBounds_toArray, List.set_cons_zero, List.set_cons_succ]
              refine wpAnyH_take (i := 36) (oi := { dst := some 86, op := Go.Op.binOp Go.BinOp.rem 3 (Go.Operand.tmp 85) (Go.Operand.const (Go.Value.int Go.IntKind.i64 60)) 3, type := 3, pos := _, after := _, guard := _ }) (v := ?_) rfl (by kernel_rfl) (by kernel_rfl) (by kernel_rfl) (fun _ _ _ h => h) (Or.inl ⟨by rfl, ?_⟩) trivial ?_
              rotate_left
              · intro w hSw; go_simp; try with_reducible rfl
              try simp only [Act.put, List.setIfInBounds_toArray, List.set_cons_zero, List.set_cons_succ]
              refine wpAnyH_ready (rs := [4]) (by kernel_rfl) (by simp) ?_
              refine AllReadyH.cons (o := { dst := some 54, op := Go.Op.call { callee := Go.Callee.value (Go.Operand.func 22), args := #[Go.Operand.tmp 53], argTypes := #[3] }, type := 9, pos := _, after := _, guard := _ }) rfl (fun K hK => ?_) AllReadyH.nil
              go_simp
              go_at_call 22
              refine (two_any _ (by omega) (by omega) _).mono ?_
              rintro e w' ⟨rfl, ha⟩
              refine hK.out _ _ trivial (fun hHeld => ?_)
              clear hK K
              try simp only [Act.put, List.setIfInBounds_toArray, List.set_cons_zero, List.set_cons_succ]
              refine wpAnyH_take (i := 5) (oi := { dst := some 55, op := Go.Op.binOp Go.BinOp.add 9 (Go.Operand.tmp 51) (Go.Operand.tmp 54) 9, type := 9, pos := _, after := _, guard := _ }) (v := ?_) rfl (by kernel_rfl) (by kernel_rfl) (by kernel_rfl) (fun _ _ _ h => h) (Or.inl ⟨by rfl, ?_⟩) trivial ?_
              rotate_left
              · intro w hSw; go_simp; try with_reducible rfl
              try simp only [Act.put, List.setIfInBounds_toArray, List.set_cons_zero, List.set_cons_succ]
              refine wpAnyH_take (i := 6) (oi := { dst := some 56, op := Go.Op.binOp Go.BinOp.add 9 (Go.Operand.tmp 55) (Go.Operand.const (Go.Value.string { data := #[32] })) 9, type := 9, pos := _, after := _, guard := _ }) (v := ?_) rfl (by kernel_rfl) (by kernel_rfl) (by kernel_rfl) (fun _ _ _ h => h) (Or.inl ⟨by rfl, ?_⟩) trivial ?_
              rotate_left
              · intro w hSw; go_simp; try with_reducible rfl
              try simp only [Act.put, List.setIfInBounds_toArray, List.set_cons_zero, List.set_cons_succ]
              refine wpAnyH_take (i := 14) (oi := { dst := some 64, op := Go.Op.binOp Go.BinOp.add 9 (Go.Operand.tmp 56) (Go.Operand.tmp 63) 9, type := 9, pos := _, after := _, guard := _ }) (v := ?_) rfl (by kernel_rfl) (by kernel_rfl) (by kernel_rfl) (fun _ _ _ h => h) (Or.inl ⟨by rfl, ?_⟩) trivial ?_
              rotate_left
              · intro w hSw; go_simp; try with_reducible rfl
              try simp only [Act.put, List.setIfInBounds_toArray, List.set_cons_zero, List.set_cons_succ]
              refine wpAnyH_take (i := 15) (oi := { dst := some 65, op := Go.Op.binOp Go.BinOp.add 9 (Go.Operand.tmp 64) (Go.Operand.const (Go.Value.string { data := #[32] })) 9, type := 9, pos := _, after := _, guard := _ }) (v := ?_) rfl (by kernel_rfl) (by kernel_rfl) (by kernel_rfl) (fun _ _ _ h => h) (Or.inl ⟨by rfl, ?_⟩) trivial ?_
              rotate_left
              · intro w hSw; go_simp; try with_reducible rfl
              try simp only [Act.put, List.setIfInBounds_toArray, List.set_cons_zero, List.set_cons_succ]
              refine wpAnyH_ready (rs := [18]) (by kernel_rfl) (by simp) ?_
              refine AllReadyH.cons (o := { dst := some 68, op := Go.Op.call { callee := Go.Callee.value (Go.Operand.func 22), args := #[Go.Operand.tmp 67], argTypes := #[3] }, type := 9, pos := _, after := _, guard := _ }) rfl (fun K hK => ?_) AllReadyH.nil
              go_simp
              go_at_call 22
              refine (two_any _ (by omega) (by omega) _).mono ?_
              rintro e w' ⟨rfl, ha⟩
              refine hK.out _ _ trivial (fun hHeld => ?_)
              clear hK K
              try simp only [Act.put, List.setIfInBounds_toArray, List.set_cons_zero, List.set_cons_succ]
              refine wpAnyH_take (i := 19) (oi := { dst := some 69, op := Go.Op.binOp Go.BinOp.add 9 (Go.Operand.tmp 65) (Go.Operand.tmp 68) 9, type := 9, pos := _, after := _, guard := _ }) (v := ?_) rfl (by kernel_rfl) (by kernel_rfl) (by kernel_rfl) (fun _ _ _ h => h) (Or.inl ⟨by rfl, ?_⟩) trivial ?_
              rotate_left
              · intro w hSw; go_simp; try with_reducible rfl
              try simp only [Act.put, List.setIfInBounds_toArray, List.set_cons_zero, List.set_cons_succ]
              refine wpAnyH_ready (rs := [21]) (by kernel_rfl) (by simp) ?_
              refine AllReadyH.cons (o := { dst := some 71, op := Go.Op.call { callee := Go.Callee.value (Go.Operand.func 22), args := #[Go.Operand.tmp 70], argTypes := #[3] }, type := 9, pos := _, after := _, guard := _ }) rfl (fun K hK => ?_) AllReadyH.nil
              go_simp
              go_at_call 22
              refine (two_any _ (by omega) (by omega) _).mono ?_
              rintro e w' ⟨rfl, ha⟩
              refine hK.out _ _ trivial (fun hHeld => ?_)
              clear hK K
              try simp only [Act.put, List.setIfInBounds_toArray, List.set_cons_zero, List.set_cons_succ]
              refine wpAnyH_take (i := 22) (oi := { dst := some 72, op := Go.Op.binOp Go.BinOp.add 9 (Go.Operand.tmp 69) (Go.Operand.tmp 71) 9, type := 9, pos := _, after := _, guard := _ }) (v := ?_) rfl (by kernel_rfl) (by kernel_rfl) (by kernel_rfl) (fun _ _ _ h => h) (Or.inl ⟨by rfl, ?_⟩) trivial ?_
              rotate_left
              · intro w hSw; go_simp; try with_reducible rfl
              try simp only [Act.put, List.setIfInBounds_toArray, List.set_cons_zero, List.set_cons_succ]
              refine wpAnyH_take (i := 23) (oi := { dst := some 73, op := Go.Op.binOp Go.BinOp.add 9 (Go.Operand.tmp 72) (Go.Operand.const (Go.Value.string { data := #[32] })) 9, type := 9, pos := _, after := _, guard := _ }) (v := ?_) rfl (by kernel_rfl) (by kernel_rfl) (by kernel_rfl) (fun _ _ _ h => h) (Or.inl ⟨by rfl, ?_⟩) trivial ?_
              rotate_left
              · intro w hSw; go_simp; try with_reducible rfl
              try simp only [Act.put, List.setIfInBounds_toArray, List.set_cons_zero, List.set_cons_succ]
              refine wpAnyH_ready (rs := [26]) (by kernel_rfl) (by simp) ?_
              refine AllReadyH.cons (o := { dst := some 76, op := Go.Op.call { callee := Go.Callee.value (Go.Operand.func 22), args := #[Go.Operand.tmp 75], argTypes := #[3] }, type := 9, pos := _, after := _, guard := _ }) rfl (fun K hK => ?_) AllReadyH.nil
              go_simp
              go_at_call 22
              refine (two_any _ (by omega) (by omega) _).mono ?_
              rintro e w' ⟨rfl, ha⟩
              refine hK.out _ _ trivial (fun hHeld => ?_)
              clear hK K
              try simp only [Act.put, List.setIfInBounds_toArray, List.set_cons_zero, List.set_cons_succ]
              refine wpAnyH_take (i := 27) (oi := { dst := some 77, op := Go.Op.binOp Go.BinOp.add 9 (Go.Operand.tmp 73) (Go.Operand.tmp 76) 9, type := 9, pos := _, after := _, guard := _ }) (v := ?_) rfl (by kernel_rfl) (by kernel_rfl) (by kernel_rfl) (fun _ _ _ h => h) (Or.inl ⟨by rfl, ?_⟩) trivial ?_
              rotate_left
              · intro w hSw; go_simp; try with_reducible rfl
              try simp only [Act.put, List.setIfInBounds_toArray, List.set_cons_zero, List.set_cons_succ]
              refine wpAnyH_take (i := 28) (oi := { dst := some 78, op := Go.Op.binOp Go.BinOp.add 9 (Go.Operand.tmp 77) (Go.Operand.const (Go.Value.string { data := #[58] })) 9, type := 9, pos := _, after := _, guard := _ }) (v := ?_) rfl (by kernel_rfl) (by kernel_rfl) (by kernel_rfl) (fun _ _ _ h => h) (Or.inl ⟨by rfl, ?_⟩) trivial ?_
              rotate_left
              · intro w hSw; go_simp; try with_reducible rfl
              try simp only [Act.put, List.setIfInBounds_toArray, List.set_cons_zero, List.set_cons_succ]
              refine wpAnyH_ready (rs := [32]) (by kernel_rfl) (by simp) ?_
              refine AllReadyH.cons (o := { dst := some 82, op := Go.Op.call { callee := Go.Callee.value (Go.Operand.func 22), args := #[Go.Operand.tmp 81], argTypes := #[3] }, type := 9, pos := _, after := _, guard := _ }) rfl (fun K hK => ?_) AllReadyH.nil
              go_simp
              go_at_call 22
              refine (two_any _ (by omega) (by omega) _).mono ?_
              rintro e w' ⟨rfl, ha⟩
              refine hK.out _ _ trivial (fun hHeld => ?_)
              clear hK K
              try simp only [Act.put, List.setIfInBounds_toArray, List.set_cons_zero, List.set_cons_succ]
              refine wpAnyH_take (i := 33) (oi := { dst := some 83, op := Go.Op.binOp Go.BinOp.add 9 (Go.Operand.tmp 78) (Go.Operand.tmp 82) 9, type := 9, pos := _, after := _, guard := _ }) (v := ?_) rfl (by kernel_rfl) (by kernel_rfl) (by kernel_rfl) (fun _ _ _ h => h) (Or.inl ⟨by rfl, ?_⟩) trivial ?_
              rotate_left
              · intro w hSw; go_simp; try with_reducible rfl
              try simp only [Act.put, List.setIfInBounds_toArray, List.set_cons_zero, List.set_cons_succ]
              refine wpAnyH_take (i := 34) (oi := { dst := some 84, op := Go.Op.binOp Go.BinOp.add 9 (Go.Operand.tmp 83) (Go.Operand.const (Go.Value.string { data := #[58] })) 9, type := 9, pos := _, after := _, guard := _ }) (v := ?_) rfl (by kernel_rfl) (by kernel_rfl) (by kernel_rfl) (fun _ _ _ h => h) (Or.inl ⟨by rfl, ?_⟩) trivial ?_
              rotate_left
              · intro w hSw; go_simp; try with_reducible rfl
              try simp only [Act.put, List.setIfInBounds_toArray, List.set_cons_zero, List.set_cons_succ]
              refine wpAnyH_ready (rs := [37]) (by kernel_rfl) (by simp) ?_
              refine AllReadyH.cons (o := { dst := some 87, op := Go.Op.call { callee := Go.Callee.value (Go.Operand.func 22), args := #[Go.Operand.tmp 86], argTypes := #[3] }, type := 9, pos := _, after := _, guard := _ }) rfl (fun K hK => ?_) AllReadyH.nil
              go_simp
              go_at_call 22
              refine (two_any _ (by omega) (by omega) _).mono ?_
              rintro e w' ⟨rfl, ha⟩
              refine hK.out _ _ trivial (fun hHeld => ?_)
              clear hK K
              try simp only [Act.put, List.setIfInBounds_toArray, List.set_cons_zero, List.set_cons_succ]
              refine wpAnyH_take (i := 38) (oi := { dst := some 88, op := Go.Op.binOp Go.BinOp.add 9 (Go.Operand.tmp 84) (Go.Operand.tmp 87) 9, type := 9, pos := _, after := _, guard := _ }) (v := ?_) rfl (by kernel_rfl) (by kernel_rfl) (by kernel_rfl) (fun _ _ _ h => h) (Or.inl ⟨by rfl, ?_⟩) trivial ?_
              rotate_left
              · intro w hSw; go_simp; try with_reducible rfl
              try simp only [Act.put, List.setIfInBounds_toArray, List.set_cons_zero, List.set_cons_succ]
              refine wpAnyH_take (i := 39) (oi := { dst := some 89, op := Go.Op.binOp Go.BinOp.add 9 (Go.Operand.tmp 88) (Go.Operand.const (Go.Value.string { data := #[32, 71, 77, 84] })) 9, type := 9, pos := _, after := _, guard := _ }) (v := ?_) rfl (by kernel_rfl) (by kernel_rfl) (by kernel_rfl) (fun _ _ _ h => h) (Or.inl ⟨by rfl, ?_⟩) trivial ?_
              rotate_left
              · intro w hSw; go_simp; try with_reducible rfl
              try simp only [Act.put, List.setIfInBounds_toArray, List.set_cons_zero, List.set_cons_succ]
              refine wpAnyH_take (i := 40) (oi := { dst := some 2, op := Go.Op.assign (Go.Operand.tmp 89), type := 9, pos := _, after := _, guard := _ }) (v := ?_) rfl (by kernel_rfl) (by kernel_rfl) (by kernel_rfl) (fun _ _ _ h => h) (Or.inl ⟨by rfl, ?_⟩) trivial ?_
              rotate_left
              · intro w hSw; go_simp; try with_reducible rfl
              try simp only [Act.put, List.setIfInBounds_toArray, List.set_cons_zero, List.set_cons_succ]
              refine wpAnyH_done (by kernel_rfl) ?_ _
              go_wp2
              go_ret
              rw [showF_eq HC.out HW.out HSX.out HY.out HYY.out HM.out]
              refine ⟨ret_str ?_, ?_⟩
              · apply bytes_ext
                simp only [data_cat, week_cut W hw0, months_cut (j : Int) (by omega)]
                unfold dateL
                rw [put4]
                simp only [List.append_assoc]
              · repeat (first | exact Aft.refl _ | assumption | refine Aft.trans ?_ (by assumption) | apply Aft.drew | apply Aft.drewN)
            · have hge : Dp.lenF y j ≤ q := by omega
              go_wp2_with (go_at_call 21; refine (reflength_any y j hy0 (by omega) (by omega) (by omega) _).mono ?_; rintro e w' ⟨rfl, rfl⟩)
              go_round
              case rel =>
                have h1 := HS2.out
                have h2 := HLT.out
                have h3 : Dp.sumM y (j + 1) = Dp.sumM y j + Dp.lenF y j := rfl
                have h4 : j ≠ 11 := by
                  intro e
                  subst e
                  have h5 := Dp.sumM_year y
                  have h6 : Dp.sumM y 12 = Dp.sumM y 11 + Dp.lenF y ((11 : Nat) : Int) := rfl
                  omega
                refine ⟨j + 1, _, by omega, rfl, by go_num, by omega, by omega, ?_, ?_⟩
                · exact Lib.hid (by omega)
                · rw [← HG2.out, show 20 - j = (20 - (j + 1)) + 1 by omega, Dp.goM_next (by omega)]
                  exact Lib.hid rfl
              case measure => simp [intOf]; omega
        · have hge : Dp.yearF (1970 + (k : Int)) ≤ d := by omega
          have HGE := Lib.hid hge
          rw [hyf] at hge
          clear hyf hlt
          go_wp2_with fail
          go_round
          case rel =>
            have h1 := HS.out
            have h2 := Dp.sumY_bd (k + 1)
            have h3 : Dp.sumY (k + 1) = Dp.sumY k + Dp.yearF (1970 + (k : Int)) := rfl
            have h4 := HYF.out
            refine ⟨k + 1, _, by omega, rfl, by go_num, by omega, by omega, ?_, ?_⟩
            · exact Lib.hid (by omega)
            · rw [← HG.out, show 100 - k = (100 - (k + 1)) + 1 by omega, Dp.goY_next HGE.out, h4]
              exact Lib.hid rfl
          case measure => simp [intOf]; omega

end Go.Proofs.Ytoldpmkcmnommaa
