/-
  KeepSays.
-/
import Derived.Test.YtodgnphmjagnkaaKeepPlain
import Derived.Test.YtodgnphmjagnkaaCtlQuoted
namespace Go.Proofs.Ytodgnphmjagnkaa
open Go.RowKit
set_option linter.unusedVariables false

theorem mayF_g (g : Bool) (st : Int) (lq ls : List FieldL) : mayF g st lq ls = (g && mayF true st lq ls) := by
  cases g <;> rfl
theorem cc_ctl (L : List UInt8) : ctlF [(nCC, L)] = ctlF (ccF [L]) := rfl
theorem cc_star (L : List UInt8) : starF [(nCC, L)] = false := by
  have e : valsF [118, 97, 114, 121] [(nCC, L)] = [] := rfl
  unfold starF
  rw [e]
  rfl
theorem cc_exp (L : List UInt8) : hasF [(nCC, L)] nExpires = false := by
  have e : valsF nExpires [(nCC, L)] = [] := rfl
  unfold hasF
  rw [e]
  rfl
theorem may_age (k : Int) (n : Nat) (hn : n ≤ 2147483647) : mayF true k [] [(nCC, nMaxAge ++ 61 :: decD n)] = (!decide (k < 200) && (!(k == 206) && !(k == 304))) := by
  have e0 : ctlF [] = ctl0 := by kernel_rfl
  have e1 : ctlF [(nCC, nMaxAge ++ 61 :: decD n)] = cq n := by rw [cc_ctl]; exact q_bare nMaxAge n hn (by decide +kernel) (by decide +kernel)
  have e3 : hasF [] nAuth = false := by kernel_rfl
  have e5 : decide (0 ≤ (n : Int)) = true := by simp
  unfold mayF
  rw [e0, e1, cc_star, e3, cc_exp]
  unfold mayB ctl0 cq
  simp only [e5]
  simp

set_option maxHeartbeats 8000000 in
set_option maxRecDepth 100000 in
theorem says_any (st : Int) (b0 : -9223372036854775808 ≤ st) (b1 : st ≤ 9223372036854775807) (m : ByteArray) (n : Nat) (hn : n < 65536) (w : World) :
    Calls Try.prog 10 #[.int .i64 st, .string m, .int .u16 (n : Int)] w fun e w' => e = .returned (.bool true) ∧ Aft w w' := by
  have HWI := Lib.hid (within_any st 200 599 b0 b1 (by decide) (by decide) (by decide))
  have g0 : wrap64 (n : Int) = (n : Int) := IntWalk.wrap64_in _ ⟨by omega, by omega⟩
  have HD := Lib.hid (fun w => digits_18 n (by omega) w)
  have hdl := decD_len 4 n (by omega)
  have HM := Lib.hid (fun k => may_age k n (by omega))
  obtain ⟨S, hS⟩ : ∃ S : ByteArray, S = ⟨(decD n).toArray⟩ := ⟨_, rfl⟩
  have hSd : S.data.toList = decD n := by rw [hS]
  have hSz : S.size ≤ 5 := by rw [← size_len, hSd]; exact hdl
  rw [← hS] at HD
  rw [← hSd] at HM
  obtain ⟨X, hX⟩ : ∃ X : ByteArray, (⟨#[109, 97, 120, 45, 97, 103, 101, 61]⟩ : ByteArray) ++ S = X := ⟨_, rfl⟩
  have hXd : X.data.toList = nMaxAge ++ 61 :: S.data.toList := by rw [← hX, ByteArray.data_append, Array.toList_append]; simp [nMaxAge]
  have hXs : X.data.toList.length ≤ 1000 := by rw [hXd]; simp [nMaxAge]; have := size_len S; omega
  rw [← hXd] at HM
  have HXS := Lib.hid hXs
  have k1 : 8 + S.size ≤ 140737488355328 := by omega
  clear hdl hSd hS hXd hXs b0 b1
  have HX := Lib.hid hX
  clear hX
  go_enter Try.func10, Try.ntmps10
  go_wp2_with fail
  refine (HWI.out _).mono ?_
  rintro e w1 ⟨k, rfl, k0, k1', rfl⟩
  go_wp2_with fail
  try rw [g0]
  refine (HD.out _).mono ?_
  rintro e w2 ⟨rfl, a2⟩
  have A2 := Lib.hid a2
  clear a2
  go_wp2_with fail
  rw [HX.out]
  refine (of18_any _ _ _).mono ?_
  rintro e w3 ⟨rfl, a3⟩
  have hl : Aft w3 (w3.alloc (.cells #[.string ⟨#[99, 97, 99, 104, 101, 45, 99, 111, 110, 116, 114, 111, 108]⟩, .string X] 32)) := (Aft.refl _).alloc _
  have hRb := rbF_new ⟨#[99, 97, 99, 104, 101, 45, 99, 111, 110, 116, 114, 111, 108]⟩ X w3 _ w3.heap.size (Aft.refl _) rfl
  have hs1 : (w3.alloc (.cells #[.string ⟨#[99, 97, 99, 104, 101, 45, 99, 111, 110, 116, 114, 111, 108]⟩, .string X] 32)).heap.size = w3.heap.size + 1 := World.size_alloc _ _
  have h3 : C3 ((w3.alloc (.cells #[.string ⟨#[99, 97, 99, 104, 101, 45, 99, 111, 110, 116, 114, 111, 108]⟩, .string X] 32)).alloc (.cells #[.int .i64 k, .slice (some ⟨w3.heap.size, 0, none⟩) 1 1, .int .i64 0] 54)) (w3.heap.size + 1) (.int .i64 k) (.slice (some ⟨w3.heap.size, 0, none⟩) 1 1) (.int .i64 0) := by
    have := heap_alloc_new (w3.alloc (.cells #[.string ⟨#[99, 97, 99, 104, 101, 45, 99, 111, 110, 116, 114, 111, 108]⟩, .string X] 32)) (.cells #[.int .i64 k, .slice (some ⟨w3.heap.size, 0, none⟩) 1 1, .int .i64 0] 54)
    rw [hs1] at this
    exact this
  have hR2 := hRb.aft ((Aft.refl _).alloc (.cells #[.int .i64 k, .slice (some ⟨w3.heap.size, 0, none⟩) 1 1, .int .i64 0] 54))
  have hA := ((A2.out.trans a3).trans hl).alloc (.cells #[.int .i64 k, .slice (some ⟨w3.heap.size, 0, none⟩) 1 1, .int .i64 0] 54)
  have H3 := Lib.hid h3
  have HR2 := Lib.hid hR2
  have HA := Lib.hid hA
  clear hl hRb hs1 h3 hR2 hA a3 A2 k1 hSz
  go_upto_region 3 with fail
  generalize (w3.alloc (.cells #[.string ⟨#[99, 97, 99, 104, 101, 45, 99, 111, 110, 116, 114, 111, 108]⟩, .string X] 32)).alloc (.cells #[.int .i64 k, .slice (some ⟨w3.heap.size, 0, none⟩) 1 1, .int .i64 0] 54) = W at H3 HR2 HA ⊢
  generalize w3.heap.size = G at H3 HR2 ⊢
  obtain ⟨t0, t1, t2⟩ := H3.out.cells
  obtain ⟨q, hq⟩ : ∃ q, (!decide (k < 200) && (!(k == 206) && !(k == 304))) = q := ⟨_, rfl⟩
  have hm := HM.out k
  rw [hq] at hm
  obtain ⟨g, hg⟩ : ∃ g, (m.data.toList == [71, 69, 84]) = g := ⟨_, rfl⟩
  have hg2 : (m.toList == [71, 69, 84]) = g := by rw [Lib.toList_data]; exact hg
  have hmg : mayF (m.data.toList == [71, 69, 84]) k [] [((⟨#[99, 97, 99, 104, 101, 45, 99, 111, 110, 116, 114, 111, 108]⟩ : ByteArray).data.toList, X.data.toList)] = (g && q) := by
    rw [hg, mayF_g]
    congr 1
  have HMG := Lib.hid hmg
  have HMK := Lib.hid hm
  have HQ := Lib.hid hq
  clear hm hmg hq hg HM
  go_wp2_with fail
  refine (may_st ⟨#[71, 69, 84]⟩ (.slice none 0 0) _ k [] _ _ (rbF_none _) HR2.out fok_nil (fok_one _ HXS.out) q rfl HMK.out).mono ?_
  rintro e w5 ⟨rfl, a5⟩
  have H35 := H3.out.aft a5
  have HR5 := Lib.hid (HR2.out.aft a5)
  have HA5 := Lib.hid (HA.out.trans a5)
  obtain ⟨t0, t1, t2⟩ := H35.cells
  have H35H := Lib.hid H35
  clear a5 H35
  have hq := HQ.out
  clear HQ HMK
  have i200 : ¬ k < 200 := by omega
  have fin : (q = true ∧ (k == 206) = false ∧ (k == 304) = false) ∨ (q = false ∧ (k == 206) = true ∧ (k == 304) = false) ∨ (q = false ∧ (k == 206) = false ∧ (k == 304) = true) := by
    by_cases c2 : k = 206
    · subst c2
      exact Or.inr (Or.inl ⟨by rw [← hq]; rfl, rfl, rfl⟩)
    · have b2 : (k == 206) = false := by simpa using c2
      by_cases c3 : k = 304
      · subst c3
        exact Or.inr (Or.inr ⟨by rw [← hq]; rfl, rfl, rfl⟩)
      · have b3 : (k == 304) = false := by simpa using c3
        exact Or.inl ⟨by rw [← hq, b2, b3, decide_eq_false i200]; rfl, b2, b3⟩
  clear hq i200
  have n2 : (k != 206) = !(k == 206) := rfl
  have n3 : (k != 304) = !(k == 304) := rfl
  rcases fin with ⟨rfl, b2, b3⟩ | ⟨rfl, b2, b3⟩ | ⟨rfl, b2, b3⟩
  all_goals
    rw [b2] at n2
    rw [b3] at n3
    simp only [Bool.not_true, Bool.not_false] at n2 n3
    cases g
    all_goals
      go_wp2_with fail
      refine (may_of m (.slice none 0 0) _ k [] _ _ (rbF_none _) HR5.out fok_nil (fok_one _ HXS.out) _ HMG.out).mono ?_
      rintro e w6 ⟨rfl, a6⟩
      have HA6 := Lib.hid (HA5.out.trans a6)
      clear a6
      go_wp2_with fail
      refine (keepruns_any _).mono ?_
      rintro e w7 ⟨rfl, a7⟩
      go_wp2_with fail
      go_ret
      exact ⟨rfl, HA6.out.trans a7⟩

theorem walkKeepSays (a0 : Int) (w0 : (Lit.int .i64 a0).wf = true) (a1 : ByteArray) (w1 : a1.size ≤ maxLen) (a2 : Int) (w2 : (Lit.int .u16 a2).wf = true) (w : World) :
    Calls Try.prog 10 #[.int .i64 a0, .string a1, .int .u16 a2] w fun e w' => e = .returned (.bool true) ∧ Aft w w' := by
  have hb := bounds_i64 w0
  have h2 : 0 ≤ a2 ∧ a2 < 65536 := by have := bounds_u16 w2; omega
  obtain ⟨n, rfl⟩ := Int.eq_ofNat_of_zero_le h2.1
  exact says_any a0 hb.1 hb.2 a1 n (by omega) w

end Go.Proofs.Ytodgnphmjagnkaa
