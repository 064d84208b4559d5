/-
  The walk of the reference's Code.
-/
import Derived.Test.YtdilaommhflcoaaHuffCode
namespace Go.Proofs.Ytdilaommhflcoaa
open Go.RowKit

theorem len_k (k : Nat) (hk : k < 257) (w : World) :
    Calls Try.prog 24 #[.int .i64 (k : Int)] w fun e w' => ∃ n : Nat, Hid (Hp.lensL.getD k 0 = n) ∧ n ≤ 30 ∧ e = .returned (.int .i64 (n : Int)) ∧ Aft w w' := by
  refine (len_of (k : Int) _ (lenF_nat k hk) (by omega) (by omega) w).mono ?_
  rintro e w' ⟨rfl, h⟩
  exact ⟨_, Lib.hid rfl, (Hp.lensL_bd k hk).2, rfl, h⟩

set_option maxHeartbeats 2000000 in
theorem rcode_in (x : Nat) (hx : x < 257) (w : World) :
    Calls Try.prog 16 #[.int .i64 (x : Int)] w fun e w' => e = .returned (.tuple #[.int .i64 (codeF x), .int .i64 (Hp.lensL.getD x 0 : Nat)]) ∧ Aft w w' := by
  have hlb := Hp.lensL_bd x hx
  have hcf : codeF x = firstF (Hp.lensL.getD x 0) + count x (Hp.lensL.getD x 0) := rfl
  have hln := lenF_nat x hx
  have HB : ∀ k s, k < 33 → 0 ≤ firstF k ∧ firstF k ≤ 4294967296 ∧ 0 ≤ count s k ∧ count s k ≤ 257 := fun k s h => ⟨(first_bd k h).1, (first_bd k h).2, (count_bd s k).1, (count_bd s k).2⟩
  have HBB := Lib.hid HB
  generalize hN : Hp.lensL.getD x 0 = N at *
  have HN := Lib.hid hN
  have HC := Lib.hid hcf
  have c1 := len_of (x : Int) _ hln (by omega) (by omega)
  have hN0 : ((N : Int) == 0) = false := by rw [beq_eq_false_iff_ne]; omega
  have C1 := Lib.hid c1
  clear hcf hN hln c1 HB
  go_enter Try.func16, Try.ntmps16
  go_wp2_with fail
  refine (C1.out _).mono ?_
  rintro e w1 ⟨rfl, b1⟩
  go_wp2_with fail
  go_loopw [5, 6, 7, 8] (fun vc vl vk _ wr => ∃ (k : Nat) (c : Int), k < N ∧ vk = .int .i64 (k + 1 : Int) ∧ vl = .int .i64 (k : Int) ∧ vc = .int .i64 c ∧ Hid (c = firstF k + count 257 k) ∧ 0 ≤ c ∧ c ≤ 4294967296 + 257 ∧ Aft w wr) (fun _ _ vk _ _ => N + 1 - (intOf vk).toNat)
  case atStart => exact ⟨0, 0, by omega, rfl, rfl, rfl, Lib.hid (by decide +kernel), by omega, by omega, b1⟩
  case round =>
    obtain ⟨k, c, hk, rfl, rfl, rfl, HCC, hc0, hc1, hw⟩ := hrel
    have hd : (k : Int) + 1 - (k : Int) = 1 := by omega
    have hdk : decide ((k : Int) + 1 ≤ (N : Int)) = true := by simp; omega
    go_wp2_with fail
    have hC : c * 2 = firstF (k + 1) + count 0 (k + 1) := by
      have := HCC.out
      have hf : firstF (k + 1) = 2 * (firstF k + count 257 k) := rfl
      rw [count_zero]
      omega
    have hbc := HBB.out (k + 1) 0 (by omega)
    have hb0 : 0 ≤ c * 2 := by omega
    have hb1 : c * 2 ≤ 4294967296 + 257 := by omega
    generalize c * 2 = C0 at *
    have HC0 := Lib.hid hC
    clear hC hbc HCC hc0 hc1
    go_loopw [5, 8] (fun vc vs wi => ∃ (s : Nat) (C : Int), s ≤ 257 ∧ (k + 1 = N → s ≤ x) ∧ vs = .int .i64 (s : Int) ∧ vc = .int .i64 C ∧ Hid (C = firstF (k + 1) + count s (k + 1)) ∧ 0 ≤ C ∧ C ≤ 4294967296 + 257 ∧ Aft w wi) (fun _ vs _ => 257 - (intOf vs).toNat)
    case atStart => exact ⟨0, C0, by omega, fun _ => by omega, by go_num, rfl, HC0, hb0, hb1, hw⟩
    case round =>
      obtain ⟨s, C, hs, hsx, rfl, rfl, HCS, hC0, hC1, hwi⟩ := hrel
      by_cases hlt : s < 257
      · go_wp2_with fail
        refine (len_k s hlt _).mono ?_
        rintro e w2 ⟨n, HL, hn, rfl, b2⟩
        by_cases hnk : n = k + 1
        · have hB : ((n : Int) != (k : Int) + 1) = false := by rw [bne_eq_false_iff_eq]; omega
          by_cases hsx2 : s = x
          · have hB2 : ((s : Int) == (x : Int)) = true := by rw [hsx2]; exact beq_self_eq_true _
            have hNn : n = N := by have h1 := HL.out; have h2 := HN.out; rw [hsx2] at h1; omega
            have hres : C = codeF x := by
              rw [HC.out, HCS.out, ← hNn, hnk, hsx2]
            have HR := Lib.hid hres
            clear hsx2 hNn hnk hsx hres
            go_wp2_with fail
            go_ret2
            rw [HR.out]
            exact ⟨rfl, hwi.trans b2⟩
          · have hB2 : ((s : Int) == (x : Int)) = false := by rw [beq_eq_false_iff_ne]; omega
            have hbc := HBB.out (k + 1) (s + 1) (by omega)
            have hres : C + 1 = firstF (k + 1) + count (s + 1) (k + 1) := by
              rw [HCS.out, count_succ s _ hlt, if_pos (by rw [HL.out, hnk])]
              omega
            have hC2 : C + 1 ≤ 4294967296 + 257 := by omega
            have hsx3 : k + 1 = N → s + 1 ≤ x := fun h => by have := hsx h; omega
            have HR := Lib.hid hres
            have HX := Lib.hid hsx3
            clear hsx hsx2 hsx3 hres hbc hnk
            go_wp2_with fail
            go_roundw
            case rel => exact ⟨s + 1, C + 1, by omega, HX.out, by go_num, rfl, HR, by omega, hC2, hwi.trans b2⟩
            case measure => simp [intOf]; omega
        · have hB : ((n : Int) != (k : Int) + 1) = true := by rw [bne_iff_ne]; omega
          have hres : C = firstF (k + 1) + count (s + 1) (k + 1) := by
            rw [HCS.out, count_succ s _ hlt, if_neg (by rw [HL.out]; exact hnk)]
            omega
          have hsx3 : k + 1 = N → s + 1 ≤ x := fun h => by
            have h0 := hsx h
            by_cases e : s = x
            · have h1 := HL.out; have h2 := HN.out; rw [e] at h1; omega
            · omega
          have HR := Lib.hid hres
          have HX := Lib.hid hsx3
          clear hsx hsx3 hres hnk
          go_wp2_with fail
          go_roundw
          case rel => exact ⟨s + 1, C, by omega, HX.out, by go_num, rfl, HR, hC0, hC1, hwi.trans b2⟩
          case measure => simp [intOf]; omega
      · have hs7 : s = 257 := by omega
        have hkN : k + 1 < N := by
          by_cases e : k + 1 = N
          · have := hsx e; omega
          · omega
        have hres : C = firstF (k + 1) + count 257 (k + 1) := by rw [HCS.out, hs7]
        have HR := Lib.hid hres
        clear hsx hres hs7
        go_wp2_with fail
        go_roundw
        case rel => exact ⟨k + 1, C, hkN, by go_num, by go_num, rfl, HR, hC0, hC1, hwi⟩
        case measure => simp [intOf]; omega

theorem rcode_any (s : Int) (h0 : -9223372036854775808 ≤ s) (h1 : s ≤ 9223372036854775807) (w : World) :
    Calls Try.prog 16 #[.int .i64 s] w fun e w' => e = .returned (.tuple #[.int .i64 (symCode s), .int .i64 (Hp.lenF s)]) ∧ Aft w w' := by
  by_cases hb : s < 0 ∨ 257 ≤ s
  · have hf : symCode s = 0 ∧ Hp.lenF s = 0 := by unfold symCode Hp.lenF; rw [if_pos hb, if_pos hb]; exact ⟨rfl, rfl⟩
    have HF := Lib.hid hf
    have C1 := Lib.hid (len_of s _ HF.out.2 h0 h1)
    clear hf hb
    go_enter Try.func16, Try.ntmps16
    go_wp2_with fail
    refine (C1.out _).mono ?_
    rintro e w1 ⟨rfl, b1⟩
    go_wp2_with fail
    go_ret2
    rw [HF.out.1, HF.out.2]
    exact ⟨rfl, b1⟩
  · obtain ⟨x, rfl⟩ := Int.eq_ofNat_of_zero_le (show 0 ≤ s by omega)
    have h2 : symCode (x : Int) = codeF x := by unfold symCode; rw [if_neg hb]; simp
    rw [h2, lenF_nat x (by omega)]
    exact rcode_in x (by omega) w

end Go.Proofs.Ytdilaommhflcoaa
