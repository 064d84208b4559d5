/-
  ControlNumbers.
-/
import Derived.Test.YtodgnphmjagnkaaDigits
import Derived.Test.YtodgnphmjagnkaaCtlRunsB
import Derived.Test.YtodgnphmjagnkaaWithin
namespace Go.Proofs.Ytodgnphmjagnkaa
open Go.RowKit

theorem walkControlRuns (w : World) : Calls Try.prog 3 #[] w fun e w' => e = .returned (.bool true) ∧ Aft w w' := ctlruns_any w

theorem secGo_bad_in : ∀ (l : List UInt8) (a : Int) (c : UInt8), c ∈ l → digB c = false → secGo a l = -1
  | [], _, _, h, _ => by cases h
  | d :: r, a, c, h, hc => by
    by_cases hd : (d.toNat : Int) < 48 ∨ 57 < (d.toNat : Int)
    · exact secGo_bad a d r hd
    · rw [secGo_good a d r (by omega) (by omega)]
      refine secGo_bad_in r _ c ?_ hc
      rcases List.mem_cons.1 h with rfl | h
      · unfold digB at hc
        simp at hc
        omega
      · exact h
theorem secF_bad {l : List UInt8} {c : UInt8} (h : c ∈ l) (hc : digB c = false) : secF l = -1 := by
  unfold secF
  rw [if_neg (by intro e; rw [e] at h; cases h)]
  exact secGo_bad_in l 0 c h hc
theorem val_zeros (z : Nat) (l : List UInt8) : valL 0 (List.replicate z 48 ++ l) = valL 0 l := by
  induction z with
  | zero => rfl
  | succ z ih =>
    rw [List.replicate_succ]
    show valL (10 * 0 + (((48 : UInt8).toNat : Int) - 48)) (List.replicate z 48 ++ l) = _
    exact ih
theorem secF_zeros (z n : Nat) : secF (List.replicate z 48 ++ decD n) = min (n : Int) 2147483647 := by
  obtain ⟨h1, h2⟩ := decD_val n n (Nat.le_refl _)
  have hne : List.replicate z 48 ++ decD n ≠ [] := by
    intro e
    exact decD_ne n (List.append_eq_nil_iff.1 e).2
  have hall : (List.replicate z 48 ++ decD n).all digB = true := by
    rw [List.all_append, h1, Bool.and_true, List.all_eq_true]
    intro x hx
    rw [(List.mem_replicate.1 hx).2]
    rfl
  rw [secF_val hne hall, val_zeros, h2]

set_option maxHeartbeats 8000000 in
set_option maxRecDepth 100000 in
theorem numbers_any (n : Nat) (hn : n < 4294967296) (no at_ : Int) (a0 : -9223372036854775808 ≤ at_) (a1 : at_ ≤ 9223372036854775807) (c : Int) (c0 : 0 ≤ c) (c1 : c < 256) (w : World) :
    Calls Try.prog 6 #[.int .u32 (n : Int), .int .i64 no, .int .i64 at_, .int .u8 c] w fun e w' => e = .returned (.bool true) ∧ Aft w w' := by
  have HN := Lib.hid hn
  have HWI := Lib.hid (fun hi h1 h2 w => within_any at_ 0 hi a0 a1 (by omega) h1 h2 w)
  have g0 : wrap64 (n : Int) = (n : Int) := IntWalk.wrap64_in _ ⟨by omega, by omega⟩
  have hD := decD_len 9 n (by omega)
  have HD := Lib.hid hD
  clear hn a0 a1 hD
  go_enter Try.func6, Try.ntmps6
  go_wp2_with fail
  go_loopw [9, 10] (fun vs vk wr => ∃ (k : Nat) (s : ByteArray), vk = .int .i64 (k : Int) ∧ vs = .string s ∧ k < 4294967296 ∧ s.size + k ≤ 4294967396 ∧ Hid (DgI n k s.data.toList) ∧ Hid (Aft w wr)) (fun vs vk _ => (intOf vk).toNat + (1 - strSz vs))
  case atStart => exact ⟨n, _, by rw [g0], rfl, HN.out, by have := HN.out; show 0 + n ≤ _; omega, Lib.hid (Or.inl ⟨rfl, rfl⟩), Lib.hid (Aft.refl _)⟩
  case round =>
    obtain ⟨k, s, rfl, rfl, hk, hs, HI, HW⟩ := hrel
    have HK := Lib.hid hk
    have HSZ := Lib.hid hs
    by_cases hd : k = 0 ∧ s.size ≠ 0
    · obtain ⟨rfl, hsz⟩ := hd
      have hl : s.data.toList ≠ [] := by intro e; have := size_len s; rw [e] at this; simp at this; omega
      have he : (s.toList == []) = false := by rw [Lib.toList_data]; simpa using hl
      have HF : Hid (s.data.toList = decD n) := Lib.hid (dg_end HI.out hl)
      obtain ⟨tm, htm⟩ : ∃ tm : Int, no.tmod 30 = tm := ⟨_, rfl⟩
      have tb : -30 < tm ∧ tm < 30 := by
        have h1 := Int.tmod_lt_of_pos no (show (0 : Int) < 30 by omega)
        have h2 := Int.tmod_lt_of_pos (-no) (show (0 : Int) < 30 by omega)
        rw [Int.neg_tmod] at h2
        omega
      obtain ⟨t0, t1⟩ := tb
      have g9 : IntKind.i64.wrap tm = tm := IntWalk.i64_in _ (by omega)
      clear hl hk hs hsz
      go_wp2_with fail
      clear he htm g9
      go_loopw [9, 11] (fun vs vi wx => ∃ (j : Nat) (s2 : ByteArray), (j : Int) ≤ max tm 0 ∧ vi = .int .i64 (tm - (j : Int)) ∧ vs = .string s2 ∧ s2.size ≤ 10 + j ∧ Hid (s2.data.toList = List.replicate j 48 ++ decD n) ∧ Hid (Aft w wx)) (fun _ vi _ => (intOf vi).toNat)
      case atStart => exact ⟨0, s, by omega, by go_num, rfl, by rw [← size_len, HF.out]; have := HD.out; omega, Lib.hid HF.out, HW⟩
      case round =>
        obtain ⟨j, s2, hj, rfl, rfl, hz2, HL, HX⟩ := hrel
        by_cases hjt : tm - (j : Int) > 0
        · obtain ⟨q, hq⟩ : ∃ q : Int, tm - (j : Int) = q := ⟨_, rfl⟩
          rw [hq] at hjt ⊢
          have g7 : IntKind.i64.wrap (q - 1) = q - 1 := IntWalk.i64_in _ (by omega)
          have hcat : (1 : Nat) + s2.size ≤ 140737488355328 := by omega
          have HJ : Hid (((j + 1 : Nat) : Int) ≤ max tm 0 ∧ q - 1 = tm - ((j + 1 : Nat) : Int) ∧ s2.size ≤ 10 + j) := Lib.hid (by omega)
          clear hj hq hz2 t0 t1
          go_wp2_with fail
          go_roundw
          case rel =>
            refine ⟨j + 1, _, HJ.out.1, by rw [HJ.out.2.1], rfl, ?_, Lib.hid ?_, HX⟩
            · rw [ByteArray.size_append]; have := HJ.out.2.2; show 1 + s2.size ≤ _; omega
            · have := HL.out
              simp [List.replicate_succ, this]
          case measure => simp [intOf]; omega
        · obtain ⟨q, hq⟩ : ∃ q : Int, tm - (j : Int) = q := ⟨_, rfl⟩
          rw [hq] at hjt ⊢
          have HSF : Hid (secF s2.data.toList = min (n : Int) 2147483647) := Lib.hid (by rw [HL.out]; exact secF_zeros j n)
          have hz3 : s2.size ≤ 100 := by omega
          have HWQ := Lib.hid (HWI.out (s2.size : Int) (by omega) (by omega))
          clear hq hj hz2 t0 t1
          go_wp2_with fail
          refine (HWQ.out _).mono ?_
          rintro e w3 ⟨i, rfl, i0, i1, rfl⟩
          obtain ⟨m, rfl⟩ := Int.eq_ofNat_of_zero_le i0
          have hml : m ≤ s2.size := by omega
          have hcv1 := conv1_at c c0 c1 (wr.alloc (.cells #[.int .u8 c] 5)).drew ⟨wr.heap.size, 0, none⟩ 1 (cell_new1 wr (.int .u8 c) 5)
          have hsa : ¬ 9223372036854775807 < m + 1 := by omega
          have hsb : ¬ 9223372036854775807 < m + 1 + (s2.size - m) := by omega
          have HSZ : Hid ((s2.extract 0 m ++ ⟨#[byteOf c]⟩ ++ s2.extract m s2.size).size ≤ maxLen) := Lib.hid (by rw [ByteArray.size_append, ByteArray.size_append, ByteArray.size_extract, ByteArray.size_extract]; show _ + 1 + _ ≤ _; unfold maxLen; omega)
          have HSEC := Lib.hid (fun w => seconds_any (s2.extract 0 m ++ ⟨#[byteOf c]⟩ ++ s2.extract m s2.size) w HSZ.out)
          have HIN : Hid (byteOf c ∈ (s2.extract 0 m ++ ⟨#[byteOf c]⟩ ++ s2.extract m s2.size).data.toList) := Lib.hid (by
            rw [ByteArray.data_append, Array.toList_append, ByteArray.data_append, Array.toList_append]
            simp)
          have hodd : ¬ (48 ≤ c ∧ c ≤ 57) → secF (s2.extract 0 m ++ ⟨#[byteOf c]⟩ ++ s2.extract m s2.size).data.toList = -1 := fun h => secF_bad HIN.out (by
            unfold digB
            have := byteOf_toNat c0 c1
            rw [decide_eq_false_iff_not]
            omega)
          have HODD := Lib.hid hodd
          obtain ⟨x, hx⟩ : ∃ x, secF (s2.extract 0 m ++ ⟨#[byteOf c]⟩ ++ s2.extract m s2.size).data.toList = x := ⟨_, rfl⟩
          rw [hx] at HSEC HODD
          clear hodd hx
          go_wp2_with fail
          go_region_law (first
            | (go_simp; go_at_call 14; refine (HSEC.out _).mono ?_; rintro e w6 ⟨rfl, rfl⟩))
          have HW6 : Hid (Aft w (wr.alloc (.cells #[.int .u8 c] 5)).drew) := Lib.hid (HX.out.alloc _).drew
          have HS2 := Lib.hid (fun w => seconds_any s2 w (by unfold maxLen; omega))
          rw [HSF.out] at HS2
          clear hcv1 hsa hsb hml i0 i1 hz3 HSEC HSZ HIN HSF HWI HL
          by_cases hdig : 48 ≤ c ∧ c ≤ 57
          · obtain ⟨d0, d1⟩ := hdig
            clear HODD
            rcases Int.le_total (n : Int) 2147483647 with hnm | hnm
            · have gm : min (n : Int) 2147483647 = (n : Int) := by omega
              rw [gm] at HS2
              generalize (n : Int) = ni at *
              go_wp2_with fail
              refine (HS2.out _).mono ?_
              rintro e w7 ⟨rfl, rfl⟩
              go_wp2_with fail
              refine (ctlruns_any _).mono ?_
              rintro e w8 ⟨rfl, a8⟩
              go_wp2_with fail
              go_ret
              exact ⟨rfl, HW6.out.trans a8⟩
            · have gm : min (n : Int) 2147483647 = 2147483647 := by omega
              rw [gm] at HS2
              generalize (n : Int) = ni at *
              go_wp2_with fail
              refine (HS2.out _).mono ?_
              rintro e w7 ⟨rfl, rfl⟩
              go_wp2_with fail
              refine (ctlruns_any _).mono ?_
              rintro e w8 ⟨rfl, a8⟩
              go_wp2_with fail
              go_ret
              exact ⟨rfl, HW6.out.trans a8⟩
          · obtain rfl : x = -1 := HODD.out hdig
            have hd2 : c < 48 ∨ 57 < c := by omega
            clear HODD hdig
            rcases Int.le_total (n : Int) 2147483647 with hnm | hnm
            · have gm : min (n : Int) 2147483647 = (n : Int) := by omega
              rw [gm] at HS2
              generalize (n : Int) = ni at *
              rcases hd2 with d0 | d0
              all_goals
                go_wp2_with fail
                refine (HS2.out _).mono ?_
                rintro e w7 ⟨rfl, rfl⟩
                go_wp2_with fail
                refine (ctlruns_any _).mono ?_
                rintro e w8 ⟨rfl, a8⟩
                go_wp2_with fail
                go_ret
                exact ⟨rfl, HW6.out.trans a8⟩
            · have gm : min (n : Int) 2147483647 = 2147483647 := by omega
              rw [gm] at HS2
              generalize (n : Int) = ni at *
              rcases hd2 with d0 | d0
              all_goals
                go_wp2_with fail
                refine (HS2.out _).mono ?_
                rintro e w7 ⟨rfl, rfl⟩
                go_wp2_with fail
                refine (ctlruns_any _).mono ?_
                rintro e w8 ⟨rfl, a8⟩
                go_wp2_with fail
                go_ret
                exact ⟨rfl, HW6.out.trans a8⟩
    · obtain ⟨y, hy⟩ : ∃ y : Int, ((k : Int) % 10) = y := ⟨_, rfl⟩
      have y0 : 0 ≤ y := by omega
      have y1 : y < 10 := by omega
      obtain ⟨z, hz⟩ : ∃ z : Int, 48 + y = z := ⟨_, rfl⟩
      have z0 : 0 ≤ z := by omega
      have z1 : z < 256 := by omega
      have hcv := conv1 wr z z0 z1
      have hr : (k : Int).tmod 10 = y := by rw [Int.tmod_eq_emod_of_nonneg (by omega)]; exact hy
      have hq : (k : Int).tdiv 10 = ((k / 10 : Nat) : Int) := by rw [Int.tdiv_eq_ediv_of_nonneg (by omega)]; rfl
      have g1 : IntKind.i64.wrap (48 + y) = z := by rw [hz]; exact IntWalk.i64_in _ (by omega)
      have g2 : IntKind.u8.wrap z = z := IntWalk.u8_in _ (by omega)
      have g3 : IntKind.i64.wrap y = y := IntWalk.i64_in _ (by omega)
      have g4 : IntKind.i64.wrap ((k / 10 : Nat) : Int) = ((k / 10 : Nat) : Int) := IntWalk.i64_in _ (by omega)
      have HY : Hid (byteOf z = UInt8.ofNat (48 + k % 10)) := Lib.hid (by
        unfold byteOf
        have e : z.toNat = 48 + k % 10 := by omega
        rw [e])
      have hne : k = 0 → s.size = 0 := by intro h; by_cases h2 : s.size = 0; exact h2; exact absurd ⟨h, h2⟩ hd
      have HST := Lib.hid (dg_step HI.out (fun h => List.eq_nil_of_length_eq_zero (by rw [size_len]; exact hne h)))
      have hcat : (1 : Nat) + s.size ≤ 140737488355328 := by omega
      obtain ⟨q, hqq⟩ : ∃ q : Nat, k / 10 = q := ⟨_, rfl⟩
      rw [hqq] at hq g4 HST
      have hqk : k = 0 ∧ q = 0 ∨ q < k := by omega
      have hqs : q < 4294967296 ∧ s.size + 1 + q ≤ 4294967396 := by omega
      have HQS := Lib.hid hqs
      have HQK := Lib.hid hqk
      have HNE := Lib.hid hne
      clear hqq hqs hqk hne
      by_cases hk0 : k = 0
      · have hl : s.data.toList = [] := List.eq_nil_of_length_eq_zero (by rw [size_len]; exact HNE.out hk0)
        have he : (s.toList == []) = true := by rw [Lib.toList_data, hl]; rfl
        obtain rfl : y = 0 := by omega
        obtain rfl : z = 48 := by omega
        obtain rfl : q = 0 := by have := HQK.out; omega
        subst hk0
        clear hl hd hk hs hy hr hq g1 g2 g3 g4 hz
        go_wp2_with fail
        go_roundw
        case rel =>
          refine ⟨0, _, by go_num, rfl, HQS.out.1, ?_, Lib.hid ?_, Lib.hid (HW.out.alloc _)⟩
          · rw [ByteArray.size_append]; have := HQS.out.2; show 1 + s.size + 0 ≤ _; omega
          · have := HST.out; rw [← HY.out] at this; simpa using this
        case measure =>
          have h3 := HNE.out rfl
          rw [strSz_str, strSz_str, ByteArray.size_append, h3]
          have h4 : (⟨#[byteOf 48]⟩ : ByteArray).size = 1 := rfl
          rw [h4]
          simp [intOf]
      · have i0 : (0 : Int) < (k : Int) := by omega
        have HKP : Hid (0 < k) := Lib.hid (by omega)
        clear hd hk hs hy hk0 hz
        generalize hK : (k : Int) = K at *
        have HKK := Lib.hid hK
        clear hK
        go_wp2_with fail
        go_roundw
        case rel =>
          refine ⟨q, _, by go_num, rfl, HQS.out.1, ?_, Lib.hid ?_, Lib.hid (HW.out.alloc _)⟩
          · rw [ByteArray.size_append]; have := HQS.out.2; show 1 + s.size + q ≤ _; omega
          · have := HST.out; rw [← HY.out] at this; simpa using this
        case measure =>
          have h1 := HQK.out
          have h2 := HKP.out
          have h3 := HKK.out
          rw [strSz_str, strSz_str, ByteArray.size_append]
          have h4 : (⟨#[byteOf z]⟩ : ByteArray).size = 1 := rfl
          rw [h4]
          simp [intOf] <;> omega

theorem walkControlNumbers (a0 : Int) (w0 : (Lit.int .u32 a0).wf = true) (a1 : Int) (_w1 : (Lit.int .i64 a1).wf = true) (a2 : Int) (w2 : (Lit.int .i64 a2).wf = true) (a3 : Int) (w3 : (Lit.int .u8 a3).wf = true) (w : World) :
    Calls Try.prog 6 #[.int .u32 a0, .int .i64 a1, .int .i64 a2, .int .u8 a3] w fun e w' => e = .returned (.bool true) ∧ Aft w w' := by
  have h0 : 0 ≤ a0 ∧ a0 < 4294967296 := by have := bounds_u32 w0; omega
  have h3 : 0 ≤ a3 ∧ a3 < 256 := by have := bounds_u8 w3; omega
  have b2 := bounds_i64 w2
  obtain ⟨n, rfl⟩ := Int.eq_ofNat_of_zero_le h0.1
  exact numbers_any n (by omega) a1 a2 b2.1 b2.2 a3 h3.1 h3.2 w

end Go.Proofs.Ytodgnphmjagnkaa
