/-
  The walks of control.Seconds, least and number.
-/
import Derived.Test.YtimpnknmhbpffaaCtlPlain
namespace Go.Proofs.Ytimpnknmhbpffaa
open Go.RowKit

theorem secGo_bad (n : Int) (c : UInt8) (r : List UInt8) (h : (c.toNat : Int) < 48 ∨ 57 < (c.toNat : Int)) : secGo n (c :: r) = -1 := by
  unfold secGo
  rw [if_pos (by omega)]
theorem secGo_good (n : Int) (c : UInt8) (r : List UInt8) (h0 : 48 ≤ (c.toNat : Int)) (h1 : (c.toNat : Int) ≤ 57) : secGo n (c :: r) = secGo (min (10 * n + ((c.toNat : Int) - 48)) 2147483647) r := by
  conv => lhs; unfold secGo
  rw [if_neg (by omega)]

set_option maxHeartbeats 1000000 in
theorem seconds_any (s : ByteArray) (w : World) (hs : s.size ≤ maxLen) :
    Calls Try.prog 66 #[.string s] w fun e w' => e = .returned (.int .i64 (secF s.data.toList)) ∧ w = w' := by
  unfold maxLen at hs
  go_enter Try.func66, Try.ntmps66
  go_wp2_with fail
  go_loop [3, 7] (fun vn vk => ∃ (k : Nat) (n : Int), k ≤ s.size ∧ vk = .int .i64 (k : Int) ∧ vn = .int .i64 n ∧ 0 ≤ n ∧ n ≤ 2147483647 ∧ Hid (secGo 0 s.data.toList = secGo n (s.data.toList.drop k))) (fun _ vk => s.size - (intOf vk).toNat)
  case atStart => exact ⟨0, 0, by omega, by go_num, rfl, by omega, by omega, Lib.hid rfl⟩
  case round =>
    obtain ⟨k, n, hk, rfl, rfl, n0, n1, HK⟩ := hrel
    by_cases hlt : k < s.size
    · have hkl : k < s.data.toList.length := by rw [size_len]; exact hlt
      have hd : s.data.toList.drop k = s.data.toList[k] :: s.data.toList.drop (k + 1) := List.drop_eq_getElem_cons hkl
      have hne : s.data.toList ≠ [] := by intro e; rw [e] at hkl; simp at hkl
      obtain ⟨c, hc⟩ : ∃ c, s[k]'hlt = c := ⟨_, rfl⟩
      have hc2 : s.data.toList[k] = c := hc
      rw [hc2] at hd
      have h255 : (c.toNat : Int) ≤ 255 := by have := c.toNat_lt; omega
      have h00 : 0 ≤ (c.toNat : Int) := by omega
      have HKK : Hid (secGo 0 s.data.toList = secGo n (c :: s.data.toList.drop (k + 1))) := Lib.hid (by rw [HK.out, hd])
      have HB := Lib.hid (secGo_bad n c (s.data.toList.drop (k + 1)))
      have HG := Lib.hid (secGo_good n c (s.data.toList.drop (k + 1)))
      have HSF : Hid (secF s.data.toList = secGo 0 s.data.toList) := Lib.hid (by unfold secF; rw [if_neg hne])
      clear hd hc2 hne hkl
      obtain ⟨m, hm⟩ : ∃ m : Int, (c.toNat : Int) = m := ⟨_, rfl⟩
      rw [hm] at h255 h00 HB HG
      have hki : (k : Int) < (s.size : Int) := by omega
      by_cases h1 : m < 48
      · go_wp2_with fail
        go_ret
        exact ⟨ret_int (by rw [HSF.out, HKK.out, HB.out (Or.inl h1)]), rfl⟩
      · by_cases h2 : m > 57
        · go_wp2_with fail
          go_ret
          exact ⟨ret_int (by rw [HSF.out, HKK.out, HB.out (Or.inr h2)]), rfl⟩
        · have g1 : IntKind.u8.wrap (m - 48) = m - 48 := IntWalk.u8_in _ (by omega)
          have g2 : IntKind.i64.wrap (10 * n) = 10 * n := IntWalk.i64_in _ (by omega)
          have g3 : IntKind.i64.wrap (m - 48) = m - 48 := IntWalk.i64_in _ (by omega)
          have g4 : IntKind.i64.wrap (10 * n + (m - 48)) = 10 * n + (m - 48) := IntWalk.i64_in _ (by omega)
          go_wp2_with fail
          go_round
          case rel => exact ⟨k + 1, min (10 * n + (m - 48)) 2147483647, by omega, by go_num, by first | rfl | (congr 1; omega), by omega, by omega, Lib.hid (by rw [HKK.out, HG.out (by omega) (by omega)])⟩
          case measure => simp [intOf]; omega
    · have hk2 : k = s.size := by omega
      subst hk2
      have hd : s.data.toList.drop s.size = [] := List.drop_of_length_le (by rw [size_len]; omega)
      have HSG : Hid (secGo 0 s.data.toList = n) := Lib.hid (by rw [HK.out, hd]; rfl)
      by_cases he : s.size = 0
      · have hl : s.data.toList = [] := List.eq_nil_of_length_eq_zero (by rw [size_len]; exact he)
        have h0 : s.toList = [] := by rw [Lib.toList_data]; exact hl
        have HF : Hid (secF s.data.toList = -1) := Lib.hid (by unfold secF; rw [if_pos hl])
        go_wp2_with fail
        go_ret
        exact ⟨ret_int (by first | (rw [HF.out]; done) | rfl), rfl⟩
      · have hl : s.data.toList ≠ [] := by intro e; have := size_len s; rw [e] at this; simp at this; omega
        have h0 : s.toList ≠ [] := by rw [Lib.toList_data]; exact hl
        have h1 : (s.toList == []) = false := by simpa using h0
        have HF : Hid (secF s.data.toList = n) := Lib.hid (by unfold secF; rw [if_neg hl]; exact HSG.out)
        clear hl
        go_wp2_with fail
        all_goals
          go_ret
          exact ⟨ret_int (by rw [HF.out]), rfl⟩

theorem least_any (a b : Int) (ha : -1 ≤ a ∧ a ≤ 2147483647) (hb : -1 ≤ b ∧ b ≤ 2147483647) (w : World) :
    Calls Try.prog 61 #[.int .i64 a, .int .i64 b] w fun e w' => e = .returned (.int .i64 (lsF a b)) ∧ w = w' := by
  obtain ⟨a0, a1⟩ := ha
  obtain ⟨b0, b1⟩ := hb
  by_cases h : a < 0
  · have HF : Hid (lsF a b = b) := Lib.hid (by unfold lsF; rw [if_pos h])
    go_enter Try.func61, Try.ntmps61
    go_wp2_with fail
    go_ret
    exact ⟨ret_int HF.out.symm, rfl⟩
  · have HF : Hid (lsF a b = min a b) := Lib.hid (by unfold lsF; rw [if_neg h])
    go_enter Try.func61, Try.ntmps61
    go_wp2_with fail
    all_goals
      go_ret
      exact ⟨ret_int (by first | (rw [HF.out]; done) | (rw [HF.out]; omega)), rfl⟩

def pairA (p : PairL) : Value := .agg #[.string ⟨p.name.toArray⟩, .string ⟨p.value.toArray⟩, .bool p.has]
theorem number_any (p : PairL) (b : Int) (hb : 0 ≤ b ∧ b ≤ 2147483647) (hp : p.value.length ≤ 1000000000) (w : World) :
    Calls Try.prog 62 #[pairA p, .int .i64 b] w fun e w' => e = .returned (.int .i64 (numF p b)) ∧ Aft w w' := by
  obtain ⟨n, v, h⟩ := p
  obtain ⟨b0, b1⟩ := hb
  have hs := fun w => seconds_any ⟨v.toArray⟩ w (by show v.toArray.size ≤ maxLen; simp only at hp; unfold maxLen; simp; omega)
  have hbd := secF_bd v
  have e1 : (⟨v.toArray⟩ : ByteArray).data.toList = v := rfl
  rw [e1] at hs
  have HS := Lib.hid hs
  unfold pairA
  simp only
  cases h
  · have HF : Hid (numF ⟨n, v, false⟩ b = b) := Lib.hid rfl
    clear hs e1
    go_enter Try.func62, Try.ntmps62
    go_wp2_with fail
    go_ret
    exact ⟨ret_int HF.out.symm, (Aft.refl w).alloc _⟩
  · have HF : Hid (numF ⟨n, v, true⟩ b = max (secF v) 0) := Lib.hid rfl
    clear hs e1
    obtain ⟨x, hx⟩ : ∃ x, secF v = x := ⟨_, rfl⟩
    rw [hx] at HF HS hbd
    clear hx
    go_enter Try.func62, Try.ntmps62
    go_wp2_with fail
    refine (HS.out _).mono ?_
    rintro e w1 ⟨rfl, rfl⟩
    go_wp2_with fail
    all_goals
      go_ret
      exact ⟨ret_int (by first | (rw [HF.out]; done) | (rw [HF.out]; omega)), (Aft.refl w).alloc _⟩

end Go.Proofs.Ytimpnknmhbpffaa
