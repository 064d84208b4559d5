/-
  The walk of HuffRises.
-/
import Derived.Test.YtdilaommhflcoaaHuffWApart
namespace Go.Proofs.Ytdilaommhflcoaa
open Go.RowKit

theorem shl_bd {c n p : Nat} (h : (c : Int) < 2 ^ n) (hn : n + p = 30) : (c : Int) * 2 ^ p < 2 ^ 30 := by
  have h1 : (2 : Int) ^ n * 2 ^ p = 2 ^ 30 := by rw [← Int.pow_add, hn]
  rw [← h1]
  exact Int.mul_lt_mul_of_pos_right h (Int.pow_pos (by decide))

set_option maxHeartbeats 1000000 in
theorem walkHuffRises (a0 : Int) (w0 : (Lit.int .i64 a0).wf = true) (a1 : Int) (w1 : (Lit.int .i64 a1).wf = true) (w : World) :
    Calls Try.prog 9 #[.int .i64 a0, .int .i64 a1] w fun e w' => e = .returned (.bool true) ∧ Aft w w' := by
  have hb := bounds_i64 w0
  have hb1 := bounds_i64 w1
  clear w0 w1
  go_enter Try.func9, Try.ntmps9
  go_wp2_with fail
  refine (within_any _ 0 256 hb.1 hb.2 (by decide) (by decide) (by decide) _).mono ?_
  rintro e w1 ⟨x, rfl, x0, x1, rfl⟩
  go_wp2_with fail
  refine (within_any _ 0 256 hb1.1 hb1.2 (by decide) (by decide) (by decide) _).mono ?_
  rintro e w1 ⟨y, rfl, y0, y1, rfl⟩
  go_wp2_with fail
  obtain ⟨x, rfl⟩ := Int.eq_ofNat_of_zero_le x0
  obtain ⟨y, rfl⟩ := Int.eq_ofNat_of_zero_le y0
  obtain ⟨c, n, hc1, hc2, hc3, n0, n1, hc4⟩ := sym_tab x (by omega)
  obtain ⟨d, m, hd1, hd2, hd3, m0, m1, hd4⟩ := sym_tab y (by omega)
  have ap := tab_all rises_ok hc1 hd1
  unfold risesOk at ap
  simp only at ap
  have AP := Lib.hid ap
  have hc5 : (c : Int) < 2 ^ n := by exact_mod_cast hc4
  have hd5 : (d : Int) < 2 ^ m := by exact_mod_cast hd4
  have HC := Lib.hid (And.intro hc2 hc3)
  have HD := Lib.hid (And.intro hd2 hd3)
  clear ap hc1 hd1 hc2 hc3 hd2 hd3 hc4 hd4
  refine (code_of (x : Int) c n HC.out.1 HC.out.2 (by omega) (by omega) _).mono ?_
  rintro e w1 ⟨rfl, b1⟩
  go_wp2_with fail
  refine (code_of (y : Int) d m HD.out.1 HD.out.2 (by omega) (by omega) _).mono ?_
  rintro e w2 ⟨rfl, b2⟩
  by_cases hnm : n = m
  · have hb : ((n : Int) == (m : Int)) = true := by rw [hnm]; simp
    have ap := AP.out
    rw [if_pos (by simpa using hnm)] at ap
    have hiff : x < y ↔ c < d := by
      have := eq_of_beq ap
      simpa using this
    clear ap hnm
    go_wp2_with (go_at_call 3; refine (huffruns_any _).mono ?_; rintro e w7 ⟨rfl, b7⟩)
    go_ret
    exact ⟨rfl, b1.trans (b2.trans b7)⟩
  · have hb : ((n : Int) == (m : Int)) = false := by rw [nat_int_beq]; simpa using hnm
    have ap := AP.out
    rw [if_neg (by simpa using hnm)] at ap
    have hiff : n < m ↔ c * 2 ^ (30 - n) < d * 2 ^ (30 - m) := by
      have := eq_of_beq ap
      simpa using this
    obtain ⟨p, hp⟩ : ∃ p, 30 - n = p := ⟨_, rfl⟩
    obtain ⟨q, hq⟩ : ∃ q, 30 - m = q := ⟨_, rfl⟩
    rw [hp, hq] at hiff
    have m1' : min (n : Int) 30 = (n : Int) := by omega
    have m2' : min (m : Int) 30 = (m : Int) := by omega
    have e1 : (30 : Int) - (n : Int) = (p : Int) := by omega
    have e2 : (30 : Int) - (m : Int) = (q : Int) := by omega
    have hcp : (c : Int) * 2 ^ p < 2 ^ 30 := shl_bd hc5 (by omega)
    have hdq : (d : Int) * 2 ^ q < 2 ^ 30 := shl_bd hd5 (by omega)
    have hcp0 : 0 ≤ (c : Int) * 2 ^ p := Int.mul_nonneg (by omega) (Int.pow_nonneg (by decide))
    have hdq0 : 0 ≤ (d : Int) * 2 ^ q := Int.mul_nonneg (by omega) (Int.pow_nonneg (by decide))
    have e3 : IntKind.i64.wrap ((c : Int) * 2 ^ p) = (c : Int) * 2 ^ p := IntWalk.i64_in _ ⟨by omega, by omega⟩
    have e4 : IntKind.i64.wrap ((d : Int) * 2 ^ q) = (d : Int) * 2 ^ q := IntWalk.i64_in _ ⟨by omega, by omega⟩
    have hi2 : ((c : Int) * 2 ^ p < (d : Int) * 2 ^ q) ↔ n < m := by
      rw [hiff]
      constructor
      · intro h; exact_mod_cast h
      · intro h; exact_mod_cast h
    clear ap hiff hp hq hcp hdq hcp0 hdq0 hc5 hd5
    go_wp2_with fail
    refine wp_region_held_drew (S := fun _ => True) (by kernel_rfl) trivial (fun hHeld => ?_)
    refine wpAnyH_take (i := 0) (oi := { dst := some 46, op := Go.Op.move (Go.Operand.tmp 8), type := 3, pos := _, after := _, guard := _ }) (v := ?_) rfl (by kernel_rfl) (by kernel_rfl) (by kernel_rfl) (fun _ _ _ h => h) (Or.inl ⟨by rfl, ?_⟩) trivial ?_
    rotate_left
    · intro w hSw; go_simp; try with_reducible rfl
    try simp only [Act.put, List.setIfInBounds_toArray, List.set_cons_zero, List.set_cons_succ]
    refine wpAnyH_take (i := 1) (oi := { dst := some 47, op := Go.Op.move (Go.Operand.tmp 10), type := 3, pos := _, after := _, guard := _ }) (v := ?_) rfl (by kernel_rfl) (by kernel_rfl) (by kernel_rfl) (fun _ _ _ h => h) (Or.inl ⟨by rfl, ?_⟩) trivial ?_
    rotate_left
    · intro w hSw; go_simp; try with_reducible rfl
    try simp only [Act.put, List.setIfInBounds_toArray, List.set_cons_zero, List.set_cons_succ]
    refine wpAnyH_take (i := 2) (oi := { dst := some 48, op := Go.Op.binOp Go.BinOp.lss 3 (Go.Operand.tmp 46) (Go.Operand.tmp 47) 3, type := 4, pos := _, after := _, guard := _ }) (v := ?_) rfl (by kernel_rfl) (by kernel_rfl) (by kernel_rfl) (fun _ _ _ h => h) (Or.inl ⟨by rfl, ?_⟩) trivial ?_
    rotate_left
    · intro w hSw; go_simp; try with_reducible rfl
    try simp only [Act.put, List.setIfInBounds_toArray, List.set_cons_zero, List.set_cons_succ]
    refine wpAnyH_take (i := 3) (oi := { dst := some 49, op := Go.Op.move (Go.Operand.tmp 7), type := 3, pos := _, after := _, guard := _ }) (v := ?_) rfl (by kernel_rfl) (by kernel_rfl) (by kernel_rfl) (fun _ _ _ h => h) (Or.inl ⟨by rfl, ?_⟩) trivial ?_
    rotate_left
    · intro w hSw; go_simp; try with_reducible rfl
    try simp only [Act.put, List.setIfInBounds_toArray, List.set_cons_zero, List.set_cons_succ]
    refine wpAnyH_take (i := 4) (oi := { dst := some 50, op := Go.Op.move (Go.Operand.tmp 11), type := 3, pos := _, after := _, guard := _ }) (v := ?_) rfl (by kernel_rfl) (by kernel_rfl) (by kernel_rfl) (fun _ _ _ h => h) (Or.inl ⟨by rfl, ?_⟩) trivial ?_
    rotate_left
    · intro w hSw; go_simp; try with_reducible rfl
    try simp only [Act.put, List.setIfInBounds_toArray, List.set_cons_zero, List.set_cons_succ]
    refine wpAnyH_take (i := 5) (oi := { dst := some 51, op := Go.Op.binOp Go.BinOp.shl 3 (Go.Operand.tmp 49) (Go.Operand.tmp 50) 3, type := 3, pos := _, after := _, guard := _ }) (v := ?_) rfl (by kernel_rfl) (by kernel_rfl) (by kernel_rfl) (fun _ _ _ h => h) (Or.inl ⟨by rfl, ?_⟩) trivial ?_
    rotate_left
    · intro w hSw; go_simp; try with_reducible rfl
    try simp only [Act.put, List.setIfInBounds_toArray, List.set_cons_zero, List.set_cons_succ]
    refine wpAnyH_take (i := 6) (oi := { dst := some 52, op := Go.Op.move (Go.Operand.tmp 9), type := 3, pos := _, after := _, guard := _ }) (v := ?_) rfl (by kernel_rfl) (by kernel_rfl) (by kernel_rfl) (fun _ _ _ h => h) (Or.inl ⟨by rfl, ?_⟩) trivial ?_
    rotate_left
    · intro w hSw; go_simp; try with_reducible rfl
    try simp only [Act.put, List.setIfInBounds_toArray, List.set_cons_zero, List.set_cons_succ]
    refine wpAnyH_take (i := 7) (oi := { dst := some 53, op := Go.Op.move (Go.Operand.tmp 12), type := 3, pos := _, after := _, guard := _ }) (v := ?_) rfl (by kernel_rfl) (by kernel_rfl) (by kernel_rfl) (fun _ _ _ h => h) (Or.inl ⟨by rfl, ?_⟩) trivial ?_
    rotate_left
    · intro w hSw; go_simp; try with_reducible rfl
    try simp only [Act.put, List.setIfInBounds_toArray, List.set_cons_zero, List.set_cons_succ]
    refine wpAnyH_take (i := 8) (oi := { dst := some 54, op := Go.Op.binOp Go.BinOp.shl 3 (Go.Operand.tmp 52) (Go.Operand.tmp 53) 3, type := 3, pos := _, after := _, guard := _ }) (v := ?_) rfl (by kernel_rfl) (by kernel_rfl) (by kernel_rfl) (fun _ _ _ h => h) (Or.inl ⟨by rfl, ?_⟩) trivial ?_
    rotate_left
    · intro w hSw; go_simp; try with_reducible rfl
    try simp only [Act.put, List.setIfInBounds_toArray, List.set_cons_zero, List.set_cons_succ]
    refine wpAnyH_take (i := 9) (oi := { dst := some 55, op := Go.Op.binOp Go.BinOp.lss 3 (Go.Operand.tmp 51) (Go.Operand.tmp 54) 3, type := 4, pos := _, after := _, guard := _ }) (v := ?_) rfl (by kernel_rfl) (by kernel_rfl) (by kernel_rfl) (fun _ _ _ h => h) (Or.inl ⟨by rfl, ?_⟩) trivial ?_
    rotate_left
    · intro w hSw; go_simp; try with_reducible rfl
    try simp only [Act.put, List.setIfInBounds_toArray, List.set_cons_zero, List.set_cons_succ]
    refine wpAnyH_take (i := 10) (oi := { dst := some 56, op := Go.Op.binOp Go.BinOp.eql 4 (Go.Operand.tmp 48) (Go.Operand.tmp 55) 4, type := 4, pos := _, after := _, guard := _ }) (v := ?_) rfl (by kernel_rfl) (by kernel_rfl) (by kernel_rfl) (fun _ _ _ h => h) (Or.inl ⟨by rfl, ?_⟩) trivial ?_
    rotate_left
    · intro w hSw; go_simp; try with_reducible rfl
    try simp only [Act.put, List.setIfInBounds_toArray, List.set_cons_zero, List.set_cons_succ]
    refine wpAnyH_take (i := 11) (oi := { dst := some 57, op := Go.Op.move (Go.Operand.tmp 56), type := 4, pos := _, after := _, guard := _ }) (v := ?_) rfl (by kernel_rfl) (by kernel_rfl) (by kernel_rfl) (fun _ _ _ h => h) (Or.inl ⟨by rfl, ?_⟩) trivial ?_
    rotate_left
    · intro w hSw; go_simp; try with_reducible rfl
    try simp only [Act.put, List.setIfInBounds_toArray, List.set_cons_zero, List.set_cons_succ]
    refine wpAnyH_ready (rs := [12]) (by kernel_rfl) (by simp) ?_
    refine AllReadyH.cons (o := { dst := some 58, op := Go.Op.call { callee := Go.Callee.value (Go.Operand.func 3), args := #[], argTypes := #[] }, type := 4, pos := _, after := _, guard := _ }) rfl (fun K hK => ?_) AllReadyH.nil
    go_simp
    go_at_call 3
    refine (huffruns_any _).mono ?_
    rintro e w7 ⟨rfl, b7⟩
    refine hK.out _ _ trivial (fun hHeld => ?_)
    clear hK K
    try simp only [Act.put, List.setIfInBounds_toArray, List.set_cons_zero, List.set_cons_succ]
    refine wpAnyH_take (i := 13) (oi := { dst := some 59, op := Go.Op.pick (Go.Operand.tmp 57) (Go.Operand.tmp 58) (Go.Operand.const (Go.Value.bool false)), type := 4, pos := _, after := _, guard := _ }) (v := ?_) rfl (by kernel_rfl) (by kernel_rfl) (by kernel_rfl) (fun _ _ _ h => h) (Or.inl ⟨by rfl, ?_⟩) trivial ?_
    rotate_left
    · intro w hSw; go_simp; try with_reducible rfl
    try simp only [Act.put, List.setIfInBounds_toArray, List.set_cons_zero, List.set_cons_succ]
    refine wpAnyH_take (i := 14) (oi := { dst := some 4, op := Go.Op.assign (Go.Operand.tmp 59), type := 4, pos := _, after := _, guard := _ }) (v := ?_) rfl (by kernel_rfl) (by kernel_rfl) (by kernel_rfl) (fun _ _ _ h => h) (Or.inl ⟨by rfl, ?_⟩) trivial ?_
    rotate_left
    · intro w hSw; go_simp; try with_reducible rfl
    try simp only [Act.put, List.setIfInBounds_toArray, List.set_cons_zero, List.set_cons_succ]
    refine wpAnyH_done (by kernel_rfl) ?_ _
    go_wp2_with fail
    go_ret
    exact ⟨rfl, b1.trans (b2.trans (((Aft.refl _).drew).trans b7))⟩

end Go.Proofs.Ytdilaommhflcoaa
