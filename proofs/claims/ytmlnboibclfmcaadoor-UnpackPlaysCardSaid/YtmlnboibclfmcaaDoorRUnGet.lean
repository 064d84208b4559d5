/-
  The walk of the reference's Get.
-/
import Derived.Test.YtmlnboibclfmcaaDoorUnGet
import Derived.Test.YtmlnboibclfmcaaDoorRPint
namespace Go.Proofs.YtmlnboibclfmcaaDoor
open Go.RowKit
set_option linter.unusedVariables false

set_option maxHeartbeats 16000000 in
set_option maxRecDepth 100000 in
theorem rpget_any (va : Option Addr) (cap : Nat) (b : List UInt8) (at_ n : Nat) (w : World) (hr : Rb w (.slice va b.length cap) b) (hl : b.length ≤ 1000000000) (ha : at_ ≤ b.length) (hn : n = 4 ∨ n = 5 ∨ n = 6 ∨ n = 7) :
    Calls Tryd.prog 71 #[.slice va b.length cap, .int .i64 (at_ : Int), .int .i64 (n : Int)] w fun e w' => e = .returned (getV (getL b at_ n)) ∧ w = w' := by
  have eM := eM_of hn
  have hn0 : ¬ (n : Int) < 0 := by omega
  have HAM := Lib.hid (fun c hc => and_m n hn c hc)
  obtain ⟨a0, c0, b0, o0, e0, m1, p1, q1, r1⟩ := hr.open
  injection e0 with e1 _ e2
  subst e1 e2
  have P1 := Lib.hid p1
  have R1 := Lib.hid r1
  have n0 : ¬ (n : Int) < 1 := by omega
  have n1 : ¬ (n : Int) > 8 := by omega
  have a0 : ¬ (at_ : Int) < 0 := by omega
  have a1 : ¬ (at_ : Int) > (b.length : Int) := by omega
  clear hr p1 q1 r1
  by_cases hlt : at_ < b.length
  rotate_left
  · have hz : ((at_ : Int) == (b.length : Int)) = true := by simp; omega
    have HG : Hid (getL b at_ n = (0, 0, 3)) := Lib.hid (by unfold getL; rw [List.getElem?_eq_none (by omega)])
    rw [HG.out]
    clear hn ha hlt
    go_enter Tryd.func71, Tryd.ntmps71
    go_wp2_with fail
    refine bodyPost_ret (v := .tuple #[.int .i64 0, .int .i64 0, .int .i64 3]) (by simp [results, Tryd.results71, go_sem]) rfl ?_
    exact ⟨rfl, rfl⟩
  have hz : ((at_ : Int) == (b.length : Int)) = false := by simp; omega
  have hne : b ≠ [] := by intro e; rw [e] at hlt; simp at hlt
  have hpa := P1.out hne
  subst hpa
  have hx := R1.out at_ hlt
  have hc := b[at_].toNat_lt
  have HG : Hid (getL b at_ n = if b[at_].toNat % 2 ^ n < maskN n then (b[at_].toNat % 2 ^ n, at_ + 1, 0) else getC b 5 0 (at_ + 1) (maskN n)) := Lib.hid (by unfold getL; rw [List.getElem?_eq_getElem hlt])
  have ham := HAM.out b[at_].toNat hc
  have hmm : maskN n ≤ 127 := by rcases hn with rfl | rfl | rfl | rfl <;> decide
  have hpw : 2 ^ n ≤ 2 ^ 7 := Nat.pow_le_pow_right (by decide) (by omega)
  have hmd : b[at_].toNat % 2 ^ n ≤ maskN n := by
    have := Nat.mod_lt b[at_].toNat (Nat.two_pow_pos n)
    unfold maskN
    omega
  obtain ⟨G, hG⟩ : ∃ G, getL b at_ n = G := ⟨_, rfl⟩
  rw [hG] at HG ⊢
  generalize b[at_].toNat = c at hx hc HG ham hmd
  generalize c % 2 ^ n = v0 at HG ham hmd
  generalize maskN n = M at eM HG ham hmm hmd
  have i1 : (at_ : Int) < (b.length : Int) := by omega
  clear hn HAM hpw hG hne ha hlt
  by_cases hv : v0 < M
  · have HG2 : Hid (G = (v0, at_ + 1, 0)) := Lib.hid (by rw [HG.out, if_pos hv])
    have hv2 : (v0 : Int) < (M : Int) := by omega
    go_enter Tryd.func71, Tryd.ntmps71
    go_wp2_with fail
    refine bodyPost_ret (v := .tuple #[.int .i64 (v0 : Int), .int .i64 ((at_ : Int) + 1), .int .i64 0]) (by simp [results, Tryd.results71, go_sem]) rfl ?_
    rw [HG2.out]
    exact ⟨rfl, rfl⟩
  have hvM : v0 = M := by omega
  subst hvM
  have HG2 : Hid (G = getC b 5 0 (at_ + 1) v0) := Lib.hid (by rw [HG.out, if_neg hv])
  have hv2 : ¬ (v0 : Int) < (v0 : Int) := by omega
  clear HG
  go_enter Tryd.func71, Tryd.ntmps71
  go_wp2_with fail
  go_loop [1, 10, 11] (fun va vv vi => ∃ (i at2 v : Nat), i ≤ 5 ∧ at2 ≤ b.length ∧ v ≤ 2147483647 ∧ va = .int .i64 (at2 : Int) ∧ vv = .int .i64 (v : Int) ∧ vi = .int .i64 (i : Int) ∧ Hid (G = getC b (5 - i) (7 * i) at2 v)) (fun _ _ vi => 6 - (intOf vi).toNat)
  case atStart => exact ⟨0, at_ + 1, v0, by omega, by omega, by omega, by go_num, rfl, by go_num, HG2⟩
  case round =>
    obtain ⟨i, at2, v, hi, hat, hvb, rfl, rfl, rfl, HC⟩ := hrel
    by_cases hi5 : i = 5
    · subst hi5
      have HE : Hid (G = (0, 0, 2)) := Lib.hid HC.out
      go_wp2_with fail
      refine bodyPost_ret (v := .tuple #[.int .i64 0, .int .i64 0, .int .i64 2]) (by simp [results, Tryd.results71, go_sem]) rfl ?_
      rw [HE.out]
      exact ⟨rfl, rfl⟩
    have hi5b : ((i : Int) == 5) = false := by simp; omega
    by_cases hat2 : at2 = b.length
    · have hz2 : (at2 : Int) ≥ (b.length : Int) := by omega
      have HE : Hid (G = (0, 0, 3)) := Lib.hid (by
        rw [HC.out]
        obtain ⟨f, hf⟩ : ∃ f, 5 - i = f + 1 := ⟨4 - i, by omega⟩
        rw [hf]
        unfold getC
        rw [List.getElem?_eq_none (by omega)])
      clear hat2
      go_wp2_with fail
      refine bodyPost_ret (v := .tuple #[.int .i64 0, .int .i64 0, .int .i64 3]) (by simp [results, Tryd.results71, go_sem]) rfl ?_
      rw [HE.out]
      exact ⟨rfl, rfl⟩
    have hz2 : ¬ (at2 : Int) ≥ (b.length : Int) := by omega
    have hlt2 : at2 < b.length := by omega
    have hx2 := R1.out at2 hlt2
    have hc2 := b[at2].toNat_lt
    have ha2 := and_a b[at2].toNat hc2
    have HGC : Hid (G = if 2147483647 < v + b[at2].toNat % 128 * 2 ^ (7 * i) then (0, 0, 2) else if b[at2].toNat < 128 then (v + b[at2].toNat % 128 * 2 ^ (7 * i), at2 + 1, 0) else getC b (5 - (i + 1)) (7 * (i + 1)) (at2 + 1) (v + b[at2].toNat % 128 * 2 ^ (7 * i))) := Lib.hid (by
      rw [HC.out]
      obtain ⟨f, hf⟩ : ∃ f, 5 - i = f + 1 := ⟨4 - i, by omega⟩
      rw [hf, show 5 - (i + 1) = f by omega]
      conv => lhs; unfold getC
      rw [List.getElem?_eq_getElem hlt2]
      rfl)
    have i2 : (at2 : Int) < (b.length : Int) := by omega
    have g7 : IntKind.i64.wrap (7 * (i : Int)) = 7 * (i : Int) := IntWalk.i64_in _ (by omega)
    generalize b[at2].toNat = c2 at hx2 hc2 ha2 HGC
    clear hat2 hlt2 HC
    have hd2 : c2 % 128 ≤ 127 := by omega
    generalize c2 % 128 = d2 at ha2 HGC hd2
    have HF0 := Lib.hid (get_num1 hvb hd2)
    have HFIN := Lib.hid (fun (K : Nat) h2 => get_num (K := K) hvb hd2 h2)
    clear hvb hd2
    rcases (show i = 0 ∨ i = 1 ∨ i = 2 ∨ i = 3 ∨ i = 4 by omega) with rfl | rfl | rfl | rfl | rfl
    · obtain ⟨y, k1, k3⟩ := HF0.out
      rw [show (2 : Nat) ^ (7 * 0) = 1 by decide, k3] at HGC
      clear k3 HFIN HF0
      by_cases hy : 2147483647 < y
      · have HE : Hid (G = (0, 0, 2)) := Lib.hid (by rw [HGC.out, if_pos hy])
        have hy2 : (y : Int) > 2147483647 := by omega
        clear hy
        go_wp2_with fail
        refine bodyPost_ret (v := .tuple #[.int .i64 0, .int .i64 0, .int .i64 2]) (by simp [results, Tryd.results71, go_sem]) rfl ?_
        rw [HE.out]
        exact ⟨rfl, rfl⟩
      have hy2 : ¬ (y : Int) > 2147483647 := by omega
      have HY := Lib.hid hy
      clear hy
      by_cases hc3 : c2 < 128
      · have HE : Hid (G = (y, at2 + 1, 0)) := Lib.hid (by rw [HGC.out, if_neg HY.out, if_pos hc3])
        have hc4 : (c2 : Int) < 128 := by omega
        clear hc3
        go_wp2_with fail
        refine bodyPost_ret (v := .tuple #[.int .i64 (y : Int), .int .i64 ((at2 : Int) + 1), .int .i64 0]) (by simp [results, Tryd.results71, go_sem]) rfl ?_
        rw [HE.out]
        exact ⟨rfl, rfl⟩
      · have HE : Hid (G = getC b (5 - (0 + 1)) (7 * (0 + 1)) (at2 + 1) y) := Lib.hid (by rw [HGC.out, if_neg HY.out, if_neg hc3])
        have hc4 : ¬ (c2 : Int) < 128 := by omega
        clear hc3
        go_wp2_with fail
        go_round
        case rel => exact ⟨0 + 1, at2 + 1, y, by omega, by omega, by have := HY.out; omega, by go_num, by first | rfl | rw [k1], by go_num, HE⟩
        case measure => simp [intOf]
    · obtain ⟨y, k0, k3⟩ := HFIN.out 128 (by decide)
      have k1 : wrap64 ((v : Int) + wrap64 ((d2 : Int) * 128)) = (y : Int) := k0
      clear k0
      rw [show (2 : Nat) ^ (7 * 1) = 128 by decide, k3] at HGC
      clear k3 HFIN HF0
      by_cases hy : 2147483647 < y
      · have HE : Hid (G = (0, 0, 2)) := Lib.hid (by rw [HGC.out, if_pos hy])
        have hy2 : (y : Int) > 2147483647 := by omega
        clear hy
        go_wp2_with fail
        refine bodyPost_ret (v := .tuple #[.int .i64 0, .int .i64 0, .int .i64 2]) (by simp [results, Tryd.results71, go_sem]) rfl ?_
        rw [HE.out]
        exact ⟨rfl, rfl⟩
      have hy2 : ¬ (y : Int) > 2147483647 := by omega
      have HY := Lib.hid hy
      clear hy
      by_cases hc3 : c2 < 128
      · have HE : Hid (G = (y, at2 + 1, 0)) := Lib.hid (by rw [HGC.out, if_neg HY.out, if_pos hc3])
        have hc4 : (c2 : Int) < 128 := by omega
        clear hc3
        go_wp2_with fail
        refine bodyPost_ret (v := .tuple #[.int .i64 (y : Int), .int .i64 ((at2 : Int) + 1), .int .i64 0]) (by simp [results, Tryd.results71, go_sem]) rfl ?_
        rw [HE.out]
        exact ⟨rfl, rfl⟩
      · have HE : Hid (G = getC b (5 - (1 + 1)) (7 * (1 + 1)) (at2 + 1) y) := Lib.hid (by rw [HGC.out, if_neg HY.out, if_neg hc3])
        have hc4 : ¬ (c2 : Int) < 128 := by omega
        clear hc3
        go_wp2_with fail
        go_round
        case rel => exact ⟨1 + 1, at2 + 1, y, by omega, by omega, by have := HY.out; omega, by go_num, by first | rfl | rw [k1], by go_num, HE⟩
        case measure => simp [intOf]
    · obtain ⟨y, k0, k3⟩ := HFIN.out 16384 (by decide)
      have k1 : wrap64 ((v : Int) + wrap64 ((d2 : Int) * 16384)) = (y : Int) := k0
      clear k0
      rw [show (2 : Nat) ^ (7 * 2) = 16384 by decide, k3] at HGC
      clear k3 HFIN HF0
      by_cases hy : 2147483647 < y
      · have HE : Hid (G = (0, 0, 2)) := Lib.hid (by rw [HGC.out, if_pos hy])
        have hy2 : (y : Int) > 2147483647 := by omega
        clear hy
        go_wp2_with fail
        refine bodyPost_ret (v := .tuple #[.int .i64 0, .int .i64 0, .int .i64 2]) (by simp [results, Tryd.results71, go_sem]) rfl ?_
        rw [HE.out]
        exact ⟨rfl, rfl⟩
      have hy2 : ¬ (y : Int) > 2147483647 := by omega
      have HY := Lib.hid hy
      clear hy
      by_cases hc3 : c2 < 128
      · have HE : Hid (G = (y, at2 + 1, 0)) := Lib.hid (by rw [HGC.out, if_neg HY.out, if_pos hc3])
        have hc4 : (c2 : Int) < 128 := by omega
        clear hc3
        go_wp2_with fail
        refine bodyPost_ret (v := .tuple #[.int .i64 (y : Int), .int .i64 ((at2 : Int) + 1), .int .i64 0]) (by simp [results, Tryd.results71, go_sem]) rfl ?_
        rw [HE.out]
        exact ⟨rfl, rfl⟩
      · have HE : Hid (G = getC b (5 - (2 + 1)) (7 * (2 + 1)) (at2 + 1) y) := Lib.hid (by rw [HGC.out, if_neg HY.out, if_neg hc3])
        have hc4 : ¬ (c2 : Int) < 128 := by omega
        clear hc3
        go_wp2_with fail
        go_round
        case rel => exact ⟨2 + 1, at2 + 1, y, by omega, by omega, by have := HY.out; omega, by go_num, by first | rfl | rw [k1], by go_num, HE⟩
        case measure => simp [intOf]
    · obtain ⟨y, k0, k3⟩ := HFIN.out 2097152 (by decide)
      have k1 : wrap64 ((v : Int) + wrap64 ((d2 : Int) * 2097152)) = (y : Int) := k0
      clear k0
      rw [show (2 : Nat) ^ (7 * 3) = 2097152 by decide, k3] at HGC
      clear k3 HFIN HF0
      by_cases hy : 2147483647 < y
      · have HE : Hid (G = (0, 0, 2)) := Lib.hid (by rw [HGC.out, if_pos hy])
        have hy2 : (y : Int) > 2147483647 := by omega
        clear hy
        go_wp2_with fail
        refine bodyPost_ret (v := .tuple #[.int .i64 0, .int .i64 0, .int .i64 2]) (by simp [results, Tryd.results71, go_sem]) rfl ?_
        rw [HE.out]
        exact ⟨rfl, rfl⟩
      have hy2 : ¬ (y : Int) > 2147483647 := by omega
      have HY := Lib.hid hy
      clear hy
      by_cases hc3 : c2 < 128
      · have HE : Hid (G = (y, at2 + 1, 0)) := Lib.hid (by rw [HGC.out, if_neg HY.out, if_pos hc3])
        have hc4 : (c2 : Int) < 128 := by omega
        clear hc3
        go_wp2_with fail
        refine bodyPost_ret (v := .tuple #[.int .i64 (y : Int), .int .i64 ((at2 : Int) + 1), .int .i64 0]) (by simp [results, Tryd.results71, go_sem]) rfl ?_
        rw [HE.out]
        exact ⟨rfl, rfl⟩
      · have HE : Hid (G = getC b (5 - (3 + 1)) (7 * (3 + 1)) (at2 + 1) y) := Lib.hid (by rw [HGC.out, if_neg HY.out, if_neg hc3])
        have hc4 : ¬ (c2 : Int) < 128 := by omega
        clear hc3
        go_wp2_with fail
        go_round
        case rel => exact ⟨3 + 1, at2 + 1, y, by omega, by omega, by have := HY.out; omega, by go_num, by first | rfl | rw [k1], by go_num, HE⟩
        case measure => simp [intOf]
    · obtain ⟨y, k0, k3⟩ := HFIN.out 268435456 (by decide)
      have k1 : wrap64 ((v : Int) + wrap64 ((d2 : Int) * 268435456)) = (y : Int) := k0
      clear k0
      rw [show (2 : Nat) ^ (7 * 4) = 268435456 by decide, k3] at HGC
      clear k3 HFIN HF0
      by_cases hy : 2147483647 < y
      · have HE : Hid (G = (0, 0, 2)) := Lib.hid (by rw [HGC.out, if_pos hy])
        have hy2 : (y : Int) > 2147483647 := by omega
        clear hy
        go_wp2_with fail
        refine bodyPost_ret (v := .tuple #[.int .i64 0, .int .i64 0, .int .i64 2]) (by simp [results, Tryd.results71, go_sem]) rfl ?_
        rw [HE.out]
        exact ⟨rfl, rfl⟩
      have hy2 : ¬ (y : Int) > 2147483647 := by omega
      have HY := Lib.hid hy
      clear hy
      by_cases hc3 : c2 < 128
      · have HE : Hid (G = (y, at2 + 1, 0)) := Lib.hid (by rw [HGC.out, if_neg HY.out, if_pos hc3])
        have hc4 : (c2 : Int) < 128 := by omega
        clear hc3
        go_wp2_with fail
        refine bodyPost_ret (v := .tuple #[.int .i64 (y : Int), .int .i64 ((at2 : Int) + 1), .int .i64 0]) (by simp [results, Tryd.results71, go_sem]) rfl ?_
        rw [HE.out]
        exact ⟨rfl, rfl⟩
      · have HE : Hid (G = getC b (5 - (4 + 1)) (7 * (4 + 1)) (at2 + 1) y) := Lib.hid (by rw [HGC.out, if_neg HY.out, if_neg hc3])
        have hc4 : ¬ (c2 : Int) < 128 := by omega
        clear hc3
        go_wp2_with fail
        go_round
        case rel => exact ⟨4 + 1, at2 + 1, y, by omega, by omega, by have := HY.out; omega, by go_num, by first | rfl | rw [k1], by go_num, HE⟩
        case measure => simp [intOf]
end Go.Proofs.YtmlnboibclfmcaaDoor
