/-
  The walks of the reference's Day and Show.
-/
import Derived.Test.YtdcdckjdloddiaaDayShow
namespace Go.Proofs.Ytdcdckjdloddiaa
open Go.RowKit

def digF (l : List UInt8) : Int := if l.all Dp.isDig = true then Dp.val l else -1
def DigRel (s : ByteArray) (v i : Value) : Prop :=
  ∃ (j : Nat) (n : Int), j ≤ s.size ∧ i = .int .i64 j ∧ v = .int .i64 n ∧ 0 ≤ n ∧ n < 1000 ^ j ∧ (s.data.toList.take j).all Dp.isDig = true ∧ n = Dp.val (s.data.toList.take j)
theorem digF_bad {s : ByteArray} {j : Nat} (hj : j < s.size) (h : Dp.isDig (s.data.toList[j]'(by rw [size_len]; exact hj)) = false) : digF s.data.toList = -1 := by
  unfold digF
  rw [if_neg]
  intro h2
  rw [List.all_eq_true] at h2
  have := h2 _ (List.getElem_mem (by rw [size_len]; exact hj))
  rw [h] at this
  cases this

set_option maxHeartbeats 1000000 in
theorem digits_any (s : ByteArray) (hs : s.size ≤ 4) (w : World) :
    Calls Try.prog 73 #[.string s] w fun e w' => e = .returned (.int .i64 (digF s.data.toList)) ∧ w = w' := by
  go_enter Try.func73, Try.ntmps73
  go_wp2
  go_loop [3, 4] (fun v i => DigRel s v i) (fun _ i => s.size - (intOf i).toNat)
  case atStart => exact ⟨0, 0, by omega, by go_num, rfl, by omega, by decide, by simp, by simp [Dp.val]⟩
  case round =>
    obtain ⟨j, n, hj, rfl, rfl, hn0, hn1, hal, hval⟩ := hrel
    have hnb := num_bound j (by omega) n hn1
    have HP := Lib.hid hn1
    have HA := Lib.hid hal
    have HV := Lib.hid hval
    clear hal hval hn1
    by_cases hlt : j < s.size
    · have hjl : j < s.data.toList.length := by rw [size_len]; exact hlt
      go_wp2
      all_goals
        first
          | (go_round
             case rel =>
               have hcb : (s[j].toNat : Int) < 256 := by have := s[j].toNat_lt; omega
               refine ⟨j + 1, _, by omega, by go_num, rfl, by omega, ?_, ?_, ?_⟩
               · have := num_bound_next j n (s[j].toNat - 48) hn0 HP.out (by omega)
                 omega
               · rw [Dp.take_snoc _ _ hjl, Dp.all_snoc, HA.out, dig_at hlt]
                 simp
                 omega
               · rw [Dp.take_snoc _ _ hjl, Dp.val_snoc, ← HV.out, ← getElem_data s j hlt]
                 omega
             case measure => simp [intOf]; omega)
          | (go_ret
             refine ⟨ret_int ?_, rfl⟩
             rw [digF_bad hlt]
             rw [dig_at hlt]
             simp
             omega)
    · have hjs : s.data.toList.take j = s.data.toList := List.take_of_length_le (by rw [size_len]; omega)
      have hfin : digF s.data.toList = n := by
        have h1 := HA.out
        have h2 := HV.out
        rw [hjs] at h1 h2
        unfold digF
        rw [if_pos h1, h2]
      have HF := Lib.hid hfin
      clear hfin hjs
      go_wp2
      go_ret
      rw [HF.out]
      exact ⟨rfl, rfl⟩

theorem reflength_any (y m : Int) (h0 : 0 ≤ y) (h1 : y ≤ 100000) (h2 : 0 ≤ m) (h3 : m ≤ 11) (w : World) :
    Calls Try.prog 74 #[.int .i64 y, .int .i64 m] w fun e w' => e = .returned (.int .i64 (Dp.lenF y m)) ∧ w = w' := by
  have hm : m = 0 ∨ m = 1 ∨ m = 2 ∨ m = 3 ∨ m = 4 ∨ m = 5 ∨ m = 6 ∨ m = 7 ∨ m = 8 ∨ m = 9 ∨ m = 10 ∨ m = 11 := by omega
  clear h2 h3
  rcases hm with rfl | rfl | rfl | rfl | rfl | rfl | rfl | rfl | rfl | rfl | rfl | rfl
  case inr.inl =>
    unfold Dp.lenF
    by_cases h : y % 4 = 0
    · rw [if_pos rfl, if_pos h]
      have hb : (y % 4 == 0) = true := by simpa using h
      clear h
      go_enter Try.func74, Try.ntmps74
      go_wp2
      go_ret
      exact ⟨rfl, rfl⟩
    · rw [if_pos rfl, if_neg h]
      have hb : (y % 4 == 0) = false := by simpa using h
      clear h
      go_enter Try.func74, Try.ntmps74
      go_wp2
      go_ret
      exact ⟨rfl, rfl⟩
  all_goals
    go_enter Try.func74, Try.ntmps74
    go_wp2
    go_ret
    exact ⟨rfl, rfl⟩

def shapeB (s : ByteArray) (h : s.size = 29) : Bool :=
  !((s[3].toNat : Int) != 44) && (!((s[4].toNat : Int) != 32) && (!((s[7].toNat : Int) != 32) && (!((s[11].toNat : Int) != 32) && (!((s[16].toNat : Int) != 32) && (!((s[19].toNat : Int) != 58) && (!((s[22].toNat : Int) != 58) && ((s.extract 25 29).toList == [32, 71, 77, 84])))))))
def lastHit (t : List UInt8) : Nat → Int
  | 0 => -1
  | i + 1 => if (Dp.monthsL.drop (3 * i)).take 3 = t then (i : Int) else lastHit t i
theorem lastHit_bd (t : List UInt8) (i : Nat) : -1 ≤ lastHit t i ∧ lastHit t i < i := by
  induction i with
  | zero => simp [lastHit]
  | succ i ih =>
    simp only [lastHit]
    split <;> omega
def cut (l : List UInt8) (a b : Nat) : List UInt8 := (l.drop a).take (b - a)
def chk (d y m h mi c : Int) : Prop := 1 ≤ d ∧ 1970 ≤ y ∧ y ≤ 2037 ∧ 0 ≤ m ∧ 0 ≤ h ∧ h ≤ 23 ∧ 0 ≤ mi ∧ mi ≤ 59 ∧ 0 ≤ c ∧ c ≤ 59 ∧ d ≤ Dp.lenF y m
theorem digF_bd (l : List UInt8) (h : l.length ≤ 4) : -1 ≤ digF l ∧ digF l ≤ 9999 := by
  unfold digF
  split
  · rename_i hd
    have h0 := Dp.val_nonneg l hd
    refine ⟨by omega, ?_⟩
    have hc : ∀ c ∈ l, (c.toNat : Int) ≤ 57 := fun c hc => by
      have := List.all_eq_true.1 hd c hc
      unfold Dp.isDig at this
      simp at this
      omega
    match l, h, hc with
    | [], _, _ => decide
    | [a], _, hc =>
      have := hc a (by simp)
      show 10 * 0 + _ ≤ _
      omega
    | [a, b], _, hc =>
      have := hc a (by simp)
      have := hc b (by simp)
      show 10 * (10 * 0 + _) + _ ≤ _
      omega
    | [a, b, c], _, hc =>
      have := hc a (by simp)
      have := hc b (by simp)
      have := hc c (by simp)
      show 10 * (10 * (10 * 0 + _) + _) + _ ≤ _
      omega
    | [a, b, c, d], _, hc =>
      have := hc a (by simp)
      have := hc b (by simp)
      have := hc c (by simp)
      have := hc d (by simp)
      show 10 * (10 * (10 * (10 * 0 + _) + _) + _) + _ ≤ _
      omega
    | _ :: _ :: _ :: _ :: _ :: _, h, _ => simp at h
  · omega
theorem digits_rel (s : ByteArray) (a b : Nat) (hs : b - a ≤ 4) (w : World) :
    Calls Try.prog 73 #[.string (s.extract a b)] w fun e w' => ∃ d, Hid (digF (cut s.data.toList a b) = d) ∧ -1 ≤ d ∧ d ≤ 9999 ∧ e = .returned (.int .i64 d) ∧ w = w' := by
  have hl : (s.extract a b).data.toList = cut s.data.toList a b := Lib.extract_data s a b
  have hz : (s.extract a b).size ≤ 4 := by rw [ByteArray.size_extract]; omega
  refine (digits_any (s.extract a b) hz w).mono fun e w' ⟨he, hw⟩ => ?_
  have hb := digF_bd (s.extract a b).data.toList (by rw [size_len]; exact hz)
  rw [hl] at he hb
  exact ⟨_, Lib.hid rfl, hb.1, hb.2, he, hw⟩

theorem months_hit {s : ByteArray} {t : List UInt8} {i : Nat} (ht : cut s.data.toList 8 11 = t) : ((ByteArray.extract ⟨#[74, 97, 110, 70, 101, 98, 77, 97, 114, 65, 112, 114, 77, 97, 121, 74, 117, 110, 74, 117, 108, 65, 117, 103, 83, 101, 112, 79, 99, 116, 78, 111, 118, 68, 101, 99]⟩ (3 * i) (3 * i + 3)).toList == (s.extract 8 11).toList) = decide ((Dp.monthsL.drop (3 * i)).take 3 = t) := by
  have h := months_cut (i : Int) (by omega)
  rw [show (3 * (i : Int)).toNat = 3 * i by omega, show (3 * (i : Int) + 3).toNat = 3 * i + 3 by omega] at h
  rw [bytes_beq, h, show (s.extract 8 11).data.toList = t by rw [Lib.extract_data]; exact ht]
  rw [Bool.eq_iff_iff]
  simp

theorem week_hit (s : ByteArray) (W : Int) (h0 : 0 ≤ W) : ((s.extract 0 3).toList == (ByteArray.extract ⟨#[84, 104, 117, 70, 114, 105, 83, 97, 116, 83, 117, 110, 77, 111, 110, 84, 117, 101, 87, 101, 100]⟩ (3 * W).toNat (3 * W + 3).toNat).toList) = decide (s.data.toList.take 3 = (Dp.weekL.drop (3 * W).toNat).take 3) := by
  rw [bytes_beq, week_cut W h0, extract_front]
  rw [Bool.eq_iff_iff]
  simp

/-- What the reference's reader comes to, step by step. -/
def refF (s : ByteArray) : Int × Bool :=
  if h : s.size = 29 then
    if shapeB s h = true then
      let l := s.data.toList
      let d := digF (cut l 5 7)
      let y := digF (cut l 12 16)
      let hh := digF (cut l 17 19)
      let mi := digF (cut l 20 22)
      let c := digF (cut l 23 25)
      let m := lastHit (cut l 8 11) 12
      if 1 ≤ d ∧ 1970 ≤ y ∧ y ≤ 2037 ∧ 0 ≤ m ∧ 0 ≤ hh ∧ hh ≤ 23 ∧ 0 ≤ mi ∧ mi ≤ 59 ∧ 0 ≤ c ∧ c ≤ 59 ∧ d ≤ Dp.lenF y m then
        let n := Dp.dayOf d m y
        if l.take 3 = (Dp.weekL.drop (3 * (n % 7)).toNat).take 3 then (((n * 24 + hh) * 60 + mi) * 60 + c, true) else (0, false)
      else (0, false)
    else (0, false)
  else (0, false)

set_option maxRecDepth 100000 in
set_option maxHeartbeats 4000000 in
theorem refday_any (s : ByteArray) (w : World) :
    Calls Try.prog 60 #[.string s] w fun e w' => e = .returned (.tuple #[.int .i64 (refF s).1, .bool (refF s).2]) ∧ Aft w w' := by
  by_cases h29 : s.size = 29
  · cases hsh : shapeB s h29
    · have hres : refF s = (0, false) := by
        unfold refF
        rw [dif_pos h29, hsh]
        rfl
      have HR := Lib.hid hres
      have HS := Lib.hid hsh
      have HZ := Lib.hid h29
      clear hres hsh
      go_enter Try.func60, Try.ntmps60
      go_wp2_with fail
      all_goals
        first
          | (go_ret2
             rw [HR.out]
             exact ⟨rfl, Aft.refl _⟩)
          | (exfalso
             have hx := HS.out
             unfold shapeB at hx
             simp_all)
    · have hx := hsh
      unfold shapeB at hx
      simp only [Bool.and_eq_true, Bool.not_eq_true'] at hx
      obtain ⟨x3, x4, x7, x11, x16, x19, x22, x25⟩ := hx
      have x26 : (!(s.extract 25 29).toList == [32, 71, 77, 84]) = false := by rw [x25]; rfl
      have HS := Lib.hid hsh
      clear hsh x25
      go_enter Try.func60, Try.ntmps60
      go_wp2_with fail
      clear x3 x4 x7 x11 x16 x19 x22 x26
      refine wp_region_held_drew (S := fun _ => True) (by kernel_rfl) trivial (fun hHeld => ?_)
      refine wpAnyH_take (i := 0) (oi := { dst := some 59, op := Go.Op.move (Go.Operand.tmp 0), type := 9, pos := _, after := _, guard := _ }) (v := ?_) rfl (by kernel_rfl) (by kernel_rfl) (by kernel_rfl) (fun _ _ _ h => h) (Or.inl ⟨by rfl, ?_⟩) trivial ?_
      rotate_left
      · intro w hSw; go_simp; try with_reducible rfl
      try simp only [Act.put]
      try simp only [List.setIfInBounds_toArray]
      try simp only [List.set]
      refine wpAnyH_take (i := 1) (oi := { dst := some 60, op := Go.Op.slice 9 (Go.Operand.tmp 59) (some (Go.Operand.const (Go.Value.int Go.IntKind.i64 5))) (some (Go.Operand.const (Go.Value.int Go.IntKind.i64 7))) none, type := 9, pos := _, after := _, guard := _ }) (v := ?_) rfl (by kernel_rfl) (by kernel_rfl) (by kernel_rfl) (fun _ _ _ h => h) (Or.inl ⟨by rfl, ?_⟩) trivial ?_
      rotate_left
      · intro w hSw; go_simp; try with_reducible rfl
      try simp only [Act.put]
      try simp only [List.setIfInBounds_toArray]
      try simp only [List.set]
      refine wpAnyH_take (i := 3) (oi := { dst := some 62, op := Go.Op.move (Go.Operand.tmp 0), type := 9, pos := _, after := _, guard := _ }) (v := ?_) rfl (by kernel_rfl) (by kernel_rfl) (by kernel_rfl) (fun _ _ _ h => h) (Or.inl ⟨by rfl, ?_⟩) trivial ?_
      rotate_left
      · intro w hSw; go_simp; try with_reducible rfl
      try simp only [Act.put]
      try simp only [List.setIfInBounds_toArray]
      try simp only [List.set]
      refine wpAnyH_take (i := 4) (oi := { dst := some 63, op := Go.Op.slice 9 (Go.Operand.tmp 62) (some (Go.Operand.const (Go.Value.int Go.IntKind.i64 12))) (some (Go.Operand.const (Go.Value.int Go.IntKind.i64 16))) none, type := 9, pos := _, after := _, guard := _ }) (v := ?_) rfl (by kernel_rfl) (by kernel_rfl) (by kernel_rfl) (fun _ _ _ h => h) (Or.inl ⟨by rfl, ?_⟩) trivial ?_
      rotate_left
      · intro w hSw; go_simp; try with_reducible rfl
      try simp only [Act.put]
      try simp only [List.setIfInBounds_toArray]
      try simp only [List.set]
      refine wpAnyH_take (i := 6) (oi := { dst := some 65, op := Go.Op.move (Go.Operand.tmp 0), type := 9, pos := _, after := _, guard := _ }) (v := ?_) rfl (by kernel_rfl) (by kernel_rfl) (by kernel_rfl) (fun _ _ _ h => h) (Or.inl ⟨by rfl, ?_⟩) trivial ?_
      rotate_left
      · intro w hSw; go_simp; try with_reducible rfl
      try simp only [Act.put]
      try simp only [List.setIfInBounds_toArray]
      try simp only [List.set]
      refine wpAnyH_take (i := 7) (oi := { dst := some 66, op := Go.Op.slice 9 (Go.Operand.tmp 65) (some (Go.Operand.const (Go.Value.int Go.IntKind.i64 17))) (some (Go.Operand.const (Go.Value.int Go.IntKind.i64 19))) none, type := 9, pos := _, after := _, guard := _ }) (v := ?_) rfl (by kernel_rfl) (by kernel_rfl) (by kernel_rfl) (fun _ _ _ h => h) (Or.inl ⟨by rfl, ?_⟩) trivial ?_
      rotate_left
      · intro w hSw; go_simp; try with_reducible rfl
      try simp only [Act.put]
      try simp only [List.setIfInBounds_toArray]
      try simp only [List.set]
      refine wpAnyH_take (i := 9) (oi := { dst := some 68, op := Go.Op.move (Go.Operand.tmp 0), type := 9, pos := _, after := _, guard := _ }) (v := ?_) rfl (by kernel_rfl) (by kernel_rfl) (by kernel_rfl) (fun _ _ _ h => h) (Or.inl ⟨by rfl, ?_⟩) trivial ?_
      rotate_left
      · intro w hSw; go_simp; try with_reducible rfl
      try simp only [Act.put]
      try simp only [List.setIfInBounds_toArray]
      try simp only [List.set]
      refine wpAnyH_take (i := 10) (oi := { dst := some 69, op := Go.Op.slice 9 (Go.Operand.tmp 68) (some (Go.Operand.const (Go.Value.int Go.IntKind.i64 20))) (some (Go.Operand.const (Go.Value.int Go.IntKind.i64 22))) none, type := 9, pos := _, after := _, guard := _ }) (v := ?_) rfl (by kernel_rfl) (by kernel_rfl) (by kernel_rfl) (fun _ _ _ h => h) (Or.inl ⟨by rfl, ?_⟩) trivial ?_
      rotate_left
      · intro w hSw; go_simp; try with_reducible rfl
      try simp only [Act.put]
      try simp only [List.setIfInBounds_toArray]
      try simp only [List.set]
      refine wpAnyH_take (i := 12) (oi := { dst := some 71, op := Go.Op.move (Go.Operand.tmp 0), type := 9, pos := _, after := _, guard := _ }) (v := ?_) rfl (by kernel_rfl) (by kernel_rfl) (by kernel_rfl) (fun _ _ _ h => h) (Or.inl ⟨by rfl, ?_⟩) trivial ?_
      rotate_left
      · intro w hSw; go_simp; try with_reducible rfl
      try simp only [Act.put]
      try simp only [List.setIfInBounds_toArray]
      try simp only [List.set]
      refine wpAnyH_take (i := 13) (oi := { dst := some 72, op := Go.Op.slice 9 (Go.Operand.tmp 71) (some (Go.Operand.const (Go.Value.int Go.IntKind.i64 23))) (some (Go.Operand.const (Go.Value.int Go.IntKind.i64 25))) none, type := 9, pos := _, after := _, guard := _ }) (v := ?_) rfl (by kernel_rfl) (by kernel_rfl) (by kernel_rfl) (fun _ _ _ h => h) (Or.inl ⟨by rfl, ?_⟩) trivial ?_
      rotate_left
      · intro w hSw; go_simp; try with_reducible rfl
      try simp only [Act.put]
      try simp only [List.setIfInBounds_toArray]
      try simp only [List.set]
      refine wpAnyH_ready (rs := [2]) (by kernel_rfl) (by simp) ?_
      refine AllReadyH.cons (o := { dst := some 61, op := Go.Op.call { callee := Go.Callee.value (Go.Operand.func 73), args := #[Go.Operand.tmp 60], argTypes := #[9] }, type := 3, pos := _, after := _, guard := _ }) rfl (fun K hK => ?_) AllReadyH.nil
      go_simp
      go_at_call 73
      refine (digits_rel s 5 7 (by decide) _).mono ?_
      rintro e w' ⟨d, HD, d0, d1, rfl, rfl⟩
      refine hK.out _ _ trivial (fun hHeld => ?_)
      clear hK K
      try simp only [Act.put]
      try simp only [List.setIfInBounds_toArray]
      try simp only [List.set]
      refine wpAnyH_ready (rs := [5]) (by kernel_rfl) (by simp) ?_
      refine AllReadyH.cons (o := { dst := some 64, op := Go.Op.call { callee := Go.Callee.value (Go.Operand.func 73), args := #[Go.Operand.tmp 63], argTypes := #[9] }, type := 3, pos := _, after := _, guard := _ }) rfl (fun K hK => ?_) AllReadyH.nil
      go_simp
      go_at_call 73
      refine (digits_rel s 12 16 (by decide) _).mono ?_
      rintro e w' ⟨y, HY, y0, y1, rfl, rfl⟩
      refine hK.out _ _ trivial (fun hHeld => ?_)
      clear hK K
      try simp only [Act.put]
      try simp only [List.setIfInBounds_toArray]
      try simp only [List.set]
      refine wpAnyH_ready (rs := [8]) (by kernel_rfl) (by simp) ?_
      refine AllReadyH.cons (o := { dst := some 67, op := Go.Op.call { callee := Go.Callee.value (Go.Operand.func 73), args := #[Go.Operand.tmp 66], argTypes := #[9] }, type := 3, pos := _, after := _, guard := _ }) rfl (fun K hK => ?_) AllReadyH.nil
      go_simp
      go_at_call 73
      refine (digits_rel s 17 19 (by decide) _).mono ?_
      rintro e w' ⟨h, HH, h0, h1, rfl, rfl⟩
      refine hK.out _ _ trivial (fun hHeld => ?_)
      clear hK K
      try simp only [Act.put]
      try simp only [List.setIfInBounds_toArray]
      try simp only [List.set]
      refine wpAnyH_ready (rs := [11]) (by kernel_rfl) (by simp) ?_
      refine AllReadyH.cons (o := { dst := some 70, op := Go.Op.call { callee := Go.Callee.value (Go.Operand.func 73), args := #[Go.Operand.tmp 69], argTypes := #[9] }, type := 3, pos := _, after := _, guard := _ }) rfl (fun K hK => ?_) AllReadyH.nil
      go_simp
      go_at_call 73
      refine (digits_rel s 20 22 (by decide) _).mono ?_
      rintro e w' ⟨mi, HMI, mi0, mi1, rfl, rfl⟩
      refine hK.out _ _ trivial (fun hHeld => ?_)
      clear hK K
      try simp only [Act.put]
      try simp only [List.setIfInBounds_toArray]
      try simp only [List.set]
      refine wpAnyH_ready (rs := [14]) (by kernel_rfl) (by simp) ?_
      refine AllReadyH.cons (o := { dst := some 73, op := Go.Op.call { callee := Go.Callee.value (Go.Operand.func 73), args := #[Go.Operand.tmp 72], argTypes := #[9] }, type := 3, pos := _, after := _, guard := _ }) rfl (fun K hK => ?_) AllReadyH.nil
      go_simp
      go_at_call 73
      refine (digits_rel s 23 25 (by decide) _).mono ?_
      rintro e w' ⟨c, HC, c0, c1, rfl, rfl⟩
      refine hK.out _ _ trivial (fun hHeld => ?_)
      clear hK K
      try simp only [Act.put]
      try simp only [List.setIfInBounds_toArray]
      try simp only [List.set]
      refine wpAnyH_take (i := 15) (oi := { dst := some 4, op := Go.Op.assign (Go.Operand.tmp 61), type := 3, pos := _, after := _, guard := _ }) (v := ?_) rfl (by kernel_rfl) (by kernel_rfl) (by kernel_rfl) (fun _ _ _ h => h) (Or.inl ⟨by rfl, ?_⟩) trivial ?_
      rotate_left
      · intro w hSw; go_simp; try with_reducible rfl
      try simp only [Act.put]
      try simp only [List.setIfInBounds_toArray]
      try simp only [List.set]
      refine wpAnyH_take (i := 16) (oi := { dst := some 5, op := Go.Op.assign (Go.Operand.tmp 64), type := 3, pos := _, after := _, guard := _ }) (v := ?_) rfl (by kernel_rfl) (by kernel_rfl) (by kernel_rfl) (fun _ _ _ h => h) (Or.inl ⟨by rfl, ?_⟩) trivial ?_
      rotate_left
      · intro w hSw; go_simp; try with_reducible rfl
      try simp only [Act.put]
      try simp only [List.setIfInBounds_toArray]
      try simp only [List.set]
      refine wpAnyH_take (i := 17) (oi := { dst := some 6, op := Go.Op.assign (Go.Operand.tmp 67), type := 3, pos := _, after := _, guard := _ }) (v := ?_) rfl (by kernel_rfl) (by kernel_rfl) (by kernel_rfl) (fun _ _ _ h => h) (Or.inl ⟨by rfl, ?_⟩) trivial ?_
      rotate_left
      · intro w hSw; go_simp; try with_reducible rfl
      try simp only [Act.put]
      try simp only [List.setIfInBounds_toArray]
      try simp only [List.set]
      refine wpAnyH_take (i := 18) (oi := { dst := some 7, op := Go.Op.assign (Go.Operand.tmp 70), type := 3, pos := _, after := _, guard := _ }) (v := ?_) rfl (by kernel_rfl) (by kernel_rfl) (by kernel_rfl) (fun _ _ _ h => h) (Or.inl ⟨by rfl, ?_⟩) trivial ?_
      rotate_left
      · intro w hSw; go_simp; try with_reducible rfl
      try simp only [Act.put]
      try simp only [List.setIfInBounds_toArray]
      try simp only [List.set]
      refine wpAnyH_take (i := 19) (oi := { dst := some 8, op := Go.Op.assign (Go.Operand.tmp 73), type := 3, pos := _, after := _, guard := _ }) (v := ?_) rfl (by kernel_rfl) (by kernel_rfl) (by kernel_rfl) (fun _ _ _ h => h) (Or.inl ⟨by rfl, ?_⟩) trivial ?_
      rotate_left
      · intro w hSw; go_simp; try with_reducible rfl
      try simp only [Act.put]
      try simp only [List.setIfInBounds_toArray]
      try simp only [List.set]
      refine wpAnyH_done (by kernel_rfl) ?_ _
      go_wp2_with fail
      go_loopw [10, 11] (fun v u wr => ∃ i : Nat, i ≤ 12 ∧ u = .int .i64 (i : Int) ∧ v = .int .i64 (lastHit (cut s.data.toList 8 11) i) ∧ Aft w wr) (fun _ u _ => 12 - (intOf u).toNat)
      case atStart => exact ⟨0, by omega, by go_num, rfl, (Aft.refl _).drew⟩
      case round =>
        obtain ⟨i, hi, rfl, rfl, hwr⟩ := hrel
        by_cases hlt : i < 12
        · have s2 := slice_in ⟨#[74, 97, 110, 70, 101, 98, 77, 97, 114, 65, 112, 114, 77, 97, 121, 74, 117, 110, 74, 117, 108, 65, 117, 103, 83, 101, 112, 79, 99, 116, 78, 111, 118, 68, 101, 99]⟩ (3 * (i : Int)) (3 * (i : Int) + 3) (by omega) (by omega) (by show _ ≤ ((36 : Nat) : Int); omega)
          have e4 : IntKind.i64.wrap (3 * (i : Int)) = 3 * (i : Int) := IntWalk.i64_in _ (by omega)
          have e5 : IntKind.i64.wrap (3 * (i : Int) + 3) = 3 * (i : Int) + 3 := IntWalk.i64_in _ (by omega)
          generalize ht : cut s.data.toList 8 11 = t at *
          have HT := Lib.hid ht
          clear ht
          have hm := months_hit (i := i) HT.out
          have hs : ∀ b, decide ((Dp.monthsL.drop (3 * i)).take 3 = t) = b → lastHit t (i + 1) = if b = true then (i : Int) else lastHit t i := by
            intro b hb
            simp only [lastHit]
            cases b
            · rw [if_neg (of_decide_eq_false hb)]; rfl
            · rw [if_pos (of_decide_eq_true hb)]; rfl
          have HS2 := Lib.hid hs
          clear hs
          have hl := lastHit_bd t i
          cases hb : decide ((Dp.monthsL.drop (3 * i)).take 3 = t)
          · rw [hb] at hm
            have HB := Lib.hid hb
            clear hb
            go_wp2
            go_quiet (fail)
            go_wp2
            go_roundw
            case rel => exact ⟨i + 1, by omega, by go_num, by rw [HS2.out _ HB.out]; rfl, hwr.drewN _⟩
            case measure => simp [intOf]; omega
          · rw [hb] at hm
            have HB := Lib.hid hb
            clear hb
            go_wp2
            go_quiet (fail)
            go_wp2
            go_roundw
            case rel => exact ⟨i + 1, by omega, by go_num, by rw [HS2.out _ HB.out]; rfl, hwr.drewN _⟩
            case measure => simp [intOf]; omega
        · have hi12 : i = 12 := by omega
          subst hi12
          clear hi hlt
          have hlb := lastHit_bd (cut s.data.toList 8 11) 12
          generalize hm : lastHit (cut s.data.toList 8 11) 12 = m at *
          have HM := Lib.hid hm
          clear hm
          have hres : refF s = if 1 ≤ d ∧ 1970 ≤ y ∧ y ≤ 2037 ∧ 0 ≤ m ∧ 0 ≤ h ∧ h ≤ 23 ∧ 0 ≤ mi ∧ mi ≤ 59 ∧ 0 ≤ c ∧ c ≤ 59 ∧ d ≤ Dp.lenF y m then
              (if s.data.toList.take 3 = (Dp.weekL.drop (3 * (Dp.dayOf d m y % 7)).toNat).take 3 then (((Dp.dayOf d m y * 24 + h) * 60 + mi) * 60 + c, true) else (0, false)) else (0, false) := by
            unfold refF
            rw [dif_pos h29, if_pos HS.out]
            simp only [HD.out, HY.out, HH.out, HMI.out, HC.out, HM.out]
          have HR := Lib.hid hres
          clear hres HD HY HH HMI HC HM HS
          by_cases hck : 1 ≤ d ∧ 1970 ≤ y ∧ y ≤ 2037 ∧ 0 ≤ m ∧ 0 ≤ h ∧ h ≤ 23 ∧ 0 ≤ mi ∧ mi ≤ 59 ∧ 0 ≤ c ∧ c ≤ 59 ∧ d ≤ Dp.lenF y m
          · have HR2 := HR.out
            rw [if_pos hck] at HR2
            have HRP := Lib.hid HR2
            clear HR HR2
            obtain ⟨k1, k2, k3, k4, k5, k6, k7, k8, k9, k10, k11⟩ := hck
            go_wp2_with (go_at_call 74; refine (reflength_any y m (by omega) (by omega) (by omega) (by omega) _).mono ?_; rintro e w' ⟨rfl, rfl⟩)
            clear k5 k7 k9 k11
            go_loopw [12, 13] (fun v u wq => ∃ k : Nat, k ≤ (y - 1970).toNat ∧ u = .int .i64 (1970 + (k : Int)) ∧ v = .int .i64 (d - 1 + Dp.sumY k) ∧ wq = wr) (fun _ u _ => (y - intOf u).toNat)
            case atStart => exact ⟨0, by omega, by go_num, by simp [Dp.sumY], rfl⟩
            case round =>
              obtain ⟨k, hk, rfl, rfl, rfl⟩ := hrel
              have hbd := Dp.sumY_bd k
              have hk2 : (k : Int) ≤ 67 := by omega
              have hby1 : 0 ≤ Dp.sumY k := by omega
              have hby2 : Dp.sumY k ≤ 25000 := by omega
              clear hbd
              by_cases hlt : 1970 + (k : Int) < y
              · by_cases hlp : (1970 + (k : Int)) % 4 = 0
                · have hyf : Dp.sumY (k + 1) = Dp.sumY k + 366 := by rw [Dp.sumY, Dp.yearF, if_pos hlp]
                  have HYF := Lib.hid hyf
                  have hlb : ((1970 + (k : Int)) % 4 == 0) = true := by simpa using hlp
                  clear hyf hlp
                  go_wp2
                  go_roundw
                  case rel => exact ⟨k + 1, by omega, by go_num, by rw [HYF.out]; go_num, trivial⟩
                  case measure => simp [intOf]; omega
                · have hyf : Dp.sumY (k + 1) = Dp.sumY k + 365 := by rw [Dp.sumY, Dp.yearF, if_neg hlp]
                  have HYF := Lib.hid hyf
                  have hlb : ((1970 + (k : Int)) % 4 == 0) = false := by simpa using hlp
                  clear hyf hlp
                  go_wp2
                  go_roundw
                  case rel => exact ⟨k + 1, by omega, by go_num, by rw [HYF.out]; go_num, trivial⟩
                  case measure => simp [intOf]; omega
              · have hkk : k = (y - 1970).toNat := by omega
                clear hk
                have HK := Lib.hid hkk
                clear hkk
                go_wp2
                generalize hYk : Dp.sumY k = Y at *
                have HYk := Lib.hid hYk
                clear hYk
                obtain ⟨mn, rfl⟩ := Int.eq_ofNat_of_zero_le k4
                go_loopw [12, 14] (fun v u wq => ∃ j : Nat, j ≤ mn ∧ u = .int .i64 (j : Int) ∧ v = .int .i64 (d - 1 + Y + Dp.sumM y j) ∧ Aft w wq) (fun _ u _ => mn - (intOf u).toNat)
                case atStart => exact ⟨0, by omega, by go_num, by simp [Dp.sumM], hwr⟩
                case round =>
                  obtain ⟨j, hj, rfl, rfl, hwq⟩ := hrel
                  have hbd := Dp.sumM_bd y j
                  have hbm1 : 0 ≤ Dp.sumM y j := by omega
                  have hbm2 : Dp.sumM y j ≤ 400 := by omega
                  clear hbd
                  have hlb := Dp.lenF_bd y j
                  by_cases hlj : j < mn
                  · go_wp2_with (go_at_call 74; refine (reflength_any y j (by omega) (by omega) (by omega) (by omega) _).mono ?_; rintro e w' ⟨rfl, rfl⟩)
                    go_roundw
                    case rel => exact ⟨j + 1, by omega, by go_num, by rw [Dp.sumM]; go_num, hwq⟩
                    case measure => simp [intOf]; omega
                  · have hjm : j = mn := by omega
                    subst hjm
                    clear hlb
                    have hday : Dp.dayOf d j y = d - 1 + Y + Dp.sumM y j := by
                      have e1 := HK.out
                      have e2 := HYk.out
                      unfold Dp.dayOf
                      rw [Int.toNat_natCast, ← e2, e1]
                    have HD := Lib.hid hday
                    clear hday
                    have hD0 : 0 ≤ d - 1 + Y + Dp.sumM y j := by omega
                    have hD1 : d - 1 + Y + Dp.sumM y j ≤ 30000 := by omega
                    generalize hDD : d - 1 + Y + Dp.sumM y j = D at *
                    clear hDD hbm1 hbm2 hby1 hby2
                    have hW0 : 0 ≤ D % 7 := by omega
                    have hW1 : D % 7 ≤ 6 := by omega
                    have e7 : D.tmod 7 = D % 7 := Int.tmod_eq_emod_of_nonneg hD0
                    generalize hWW : D % 7 = W at *
                    have HW := Lib.hid hWW
                    clear hWW
                    have s1 := slice_in ⟨#[84, 104, 117, 70, 114, 105, 83, 97, 116, 83, 117, 110, 77, 111, 110, 84, 117, 101, 87, 101, 100]⟩ (3 * W) (3 * W + 3) (by omega) (by omega) (by show _ ≤ ((21 : Nat) : Int); omega)
                    have e1 : IntKind.i64.wrap (3 * W) = 3 * W := IntWalk.i64_in _ (by omega)
                    have e2 : IntKind.i64.wrap (3 * W + 3) = 3 * W + 3 := IntWalk.i64_in _ (by omega)
                    have hm := week_hit s W hW0
                    cases hb : decide (s.data.toList.take 3 = (Dp.weekL.drop (3 * W).toNat).take 3)
                    · have HB := Lib.hid hb
                      rw [hb] at hm
                      have hm2 : (!((s.extract 0 3).toList == (ByteArray.extract ⟨#[84, 104, 117, 70, 114, 105, 83, 97, 116, 83, 117, 110, 77, 111, 110, 84, 117, 101, 87, 101, 100]⟩ (3 * W).toNat (3 * W + 3).toNat).toList)) = true := by rw [hm]; rfl
                      clear hb
                      have hres : refF s = (0, false) := by
                        rw [HRP.out, HD.out, HW.out, if_neg (of_decide_eq_false HB.out)]
                      have HF := Lib.hid hres
                      clear hres HRP HD HW HB
                      go_wp2
                      go_quiet (fail)
                      go_wp2
                      go_ret2
                      rw [HF.out]
                      exact ⟨rfl, hwq.drewN _⟩
                    · have HB := Lib.hid hb
                      rw [hb] at hm
                      have hm2 : (!((s.extract 0 3).toList == (ByteArray.extract ⟨#[84, 104, 117, 70, 114, 105, 83, 97, 116, 83, 117, 110, 77, 111, 110, 84, 117, 101, 87, 101, 100]⟩ (3 * W).toNat (3 * W + 3).toNat).toList)) = false := by rw [hm]; rfl
                      clear hb
                      have hres : refF s = (((D * 24 + h) * 60 + mi) * 60 + c, true) := by
                        rw [HRP.out, HD.out, HW.out, if_pos (of_decide_eq_true HB.out)]
                      have HF := Lib.hid hres
                      clear hres HRP HD HW HB
                      go_wp2
                      go_quiet (fail)
                      go_wp2
                      go_ret2
                      rw [HF.out]
                      exact ⟨rfl, hwq.drewN _⟩
          · have HR2 := HR.out
            rw [if_neg hck] at HR2
            have HRN := Lib.hid HR2
            have HCK := Lib.hid hck
            clear HR HR2 hck
            go_wp2_with (go_at_call 74; refine (reflength_any y m (by omega) (by omega) (by omega) (by omega) _).mono ?_; rintro e w' ⟨rfl, rfl⟩)
            all_goals
              first
                | (go_ret2
                   rw [HRN.out]
                   exact ⟨rfl, hwr⟩)
                | (exfalso
                   apply HCK.out
                   refine ⟨?_, ?_, ?_, ?_, ?_, ?_, ?_, ?_, ?_, ?_, ?_⟩ <;> omega)
  · have hres : refF s = (0, false) := by
      unfold refF
      rw [dif_neg h29]
    have HR := Lib.hid hres
    have hb : ((s.size : Int) != 29) = true := by rw [bne_iff_ne]; omega
    clear hres h29
    go_enter Try.func60, Try.ntmps60
    go_wp2
    go_ret2
    rw [HR.out]
    exact ⟨rfl, Aft.refl _⟩

end Go.Proofs.Ytdcdckjdloddiaa
