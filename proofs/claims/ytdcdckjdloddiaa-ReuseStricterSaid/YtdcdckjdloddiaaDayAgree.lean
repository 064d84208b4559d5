/-
  The reference's reader and the program's reader of dates come to the same.
-/
import Derived.Test.YtdcdckjdloddiaaDayRef
import Derived.Test.YtdcdckjdloddiaaDayLaw
namespace Go.Proofs.Ytdcdckjdloddiaa
open Go.RowKit

theorem list29 {l : List UInt8} (h : l.length = 29) : ∃ x0 x1 x2 x3 x4 x5 x6 x7 x8 x9 x10 x11 x12 x13 x14 x15 x16 x17 x18 x19 x20 x21 x22 x23 x24 x25 x26 x27 x28 : UInt8,
    l = [x0, x1, x2, x3, x4, x5, x6, x7, x8, x9, x10, x11, x12, x13, x14, x15, x16, x17, x18, x19, x20, x21, x22, x23, x24, x25, x26, x27, x28] := by
  refine ⟨l[0], l[1], l[2], l[3], l[4], l[5], l[6], l[7], l[8], l[9], l[10], l[11], l[12], l[13], l[14], l[15], l[16], l[17], l[18], l[19], l[20], l[21], l[22], l[23], l[24], l[25], l[26], l[27], l[28], ?_⟩
  apply List.ext_getElem
  · simpa using h
  · intro i h1 h2
    rw [h] at h1
    match i, h1 with
    | 0, _ | 1, _ | 2, _ | 3, _ | 4, _ | 5, _ | 6, _ | 7, _ | 8, _ | 9, _ | 10, _ | 11, _ | 12, _ | 13, _ | 14, _ | 15, _ | 16, _ | 17, _ | 18, _ | 19, _ | 20, _ | 21, _ | 22, _ | 23, _ | 24, _ | 25, _ | 26, _ | 27, _ | 28, _ => rfl
    | n + 29, h => omega
theorem list3 {l : List UInt8} (h : l.length = 3) : ∃ a b c : UInt8, l = [a, b, c] := by
  match l, h with
  | [a, b, c], _ => exact ⟨a, b, c, rfl⟩
theorem digF_putF {k : Nat} {n : Int} (h0 : 0 ≤ n) (hv : Dp.val (putF k n []) = n) : digF (putF k n []) = n := by
  unfold digF
  rw [if_pos (putF_dig k n [] h0 rfl), hv]
theorem digF_inv {k : Nat} {t : List UInt8} {v : Int} (hl : t.length = k) (h0 : 0 ≤ v) (h : digF t = v) : putF k v [] = t := by
  unfold digF at h
  split at h
  · rename_i hd
    rw [← h, putF_val k t [] hl hd, List.append_nil]
  · omega
theorem lastHit_inv {t : List UInt8} {i : Nat} {m : Int} (h : lastHit t i = m) (h0 : 0 ≤ m) : ∃ j : Nat, m = (j : Int) ∧ j < i ∧ (Dp.monthsL.drop (3 * j)).take 3 = t := by
  induction i with
  | zero => simp [lastHit] at h; omega
  | succ i ih =>
    simp only [lastHit] at h
    split at h
    · rename_i e
      exact ⟨i, h.symm, by omega, e⟩
    · obtain ⟨j, a, b, c⟩ := ih h
      exact ⟨j, a, by omega, c⟩
theorem lastHit_at : ∀ j, j < 12 → lastHit ((Dp.monthsL.drop (3 * j)).take 3) 12 = (j : Int) := by decide +kernel
theorem d_byte_eq {x : UInt8} {n : Nat} (h : (x.toNat : Int) = (n : Int)) (hn : n < 256) : x = UInt8.ofNat n := by
  apply UInt8.toNat_inj.1
  rw [UInt8.toNat_ofNat']
  omega

/-- What the reference takes is shown so. -/
theorem refF_show {s : ByteArray} {n : Int} (h : refF s = (n, true)) : s.data.toList = showF n ∧ 0 ≤ n ∧ n ≤ 2145916799 := by
  unfold refF at h
  split at h
  case isFalse => simp at h
  rename_i h29
  split at h
  case isFalse => simp at h
  rename_i hsh
  have hl29 : s.data.toList.length = 29 := by rw [size_len]; exact h29
  simp only at h
  split at h
  case isFalse => simp at h
  rename_i hck
  split at h
  case isFalse => simp at h
  rename_i hwk
  obtain ⟨x0, x1, x2, x3, x4, x5, x6, x7, x8, x9, x10, x11, x12, x13, x14, x15, x16, x17, x18, x19, x20, x21, x22, x23, x24, x25, x26, x27, x28, hl⟩ := list29 hl29
  unfold shapeB at hsh
  simp only [getElem_data, hl] at hsh
  simp only [Bool.and_eq_true, Bool.not_eq_true', bne_eq_false_iff_eq] at hsh
  obtain ⟨g3, g4, g7, g11, g16, g19, g22, g25⟩ := hsh
  have g25 : (s.extract 25 29).toList = [32, 71, 77, 84] := eq_of_beq g25
  rw [Lib.toList_data, Lib.extract_data, hl] at g25
  have g25 : [x25, x26, x27, x28] = [32, 71, 77, 84] := g25
  simp only [List.cons.injEq, and_true] at g25
  obtain ⟨rfl, rfl, rfl, rfl⟩ := g25
  have z3 : x3 = 44 := d_byte_eq (n := 44) g3 (by decide)
  have z4 : x4 = 32 := d_byte_eq (n := 32) g4 (by decide)
  have z7 : x7 = 32 := d_byte_eq (n := 32) g7 (by decide)
  have z11 : x11 = 32 := d_byte_eq (n := 32) g11 (by decide)
  have z16 : x16 = 32 := d_byte_eq (n := 32) g16 (by decide)
  have z19 : x19 = 58 := d_byte_eq (n := 58) g19 (by decide)
  have z22 : x22 = 58 := d_byte_eq (n := 58) g22 (by decide)
  clear g3 g4 g7 g11 g16 g19 g22
  subst z3 z4 z7 z11 z16 z19 z22
  rw [hl] at h hck hwk
  have c1 : ∀ l : List UInt8, l = [x0, x1, x2, 44, 32, x5, x6, 32, x8, x9, x10, 32, x12, x13, x14, x15, 32, x17, x18, 58, x20, x21, 58, x23, x24, 32, 71, 77, 84] → cut l 5 7 = [x5, x6] ∧ cut l 8 11 = [x8, x9, x10] ∧ cut l 12 16 = [x12, x13, x14, x15] ∧ cut l 17 19 = [x17, x18] ∧ cut l 20 22 = [x20, x21] ∧ cut l 23 25 = [x23, x24] := by
    intro l e
    subst e
    exact ⟨rfl, rfl, rfl, rfl, rfl, rfl⟩
  obtain ⟨e1, e2, e3, e4, e5, e6⟩ := c1 _ rfl
  rw [e1, e2, e3, e4, e5, e6] at h
  rw [e1, e2, e3] at hwk
  rw [e1, e2, e3, e4, e5, e6] at hck
  generalize hd : digF [x5, x6] = d at *
  generalize hy : digF [x12, x13, x14, x15] = y at *
  generalize hh : digF [x17, x18] = hr at *
  generalize hmi : digF [x20, x21] = mi at *
  generalize hc : digF [x23, x24] = c at *
  generalize hm : lastHit [x8, x9, x10] 12 = m at *
  obtain ⟨k1, k2, k3, k4, k5, k6, k7, k8, k9, k10, k11⟩ := hck
  obtain ⟨j, rfl, hj, hjt⟩ := lastHit_inv hm k4
  have p1 := digF_inv (k := 2) rfl (by omega) hd
  have p2 := digF_inv (k := 4) rfl (by omega) hy
  have p3 := digF_inv (k := 2) rfl (by omega) hh
  have p4 := digF_inv (k := 2) rfl (by omega) hmi
  have p5 := digF_inv (k := 2) rfl (by omega) hc
  obtain ⟨k, hk⟩ := Int.eq_ofNat_of_zero_le (show 0 ≤ y - 1970 by omega)
  have hyk : y = 1970 + (k : Int) := by omega
  subst hyk
  have hyb := sumY_mono (i := k) (k := 68) (by omega)
  rw [sumY_68] at hyb
  have hyl := Dp.sumY_bd k
  have hq := year_part (y := 1970 + (k : Int)) (j := j) (q := d - 1) hj (by omega) (by omega)
  have hday : Dp.dayOf d (j : Int) (1970 + (k : Int)) = Dp.sumY k + Dp.sumM (1970 + (k : Int)) j + (d - 1) := by
    unfold Dp.dayOf
    rw [show (1970 + (k : Int) - 1970).toNat = k by omega, Int.toNat_natCast]
    omega
  rw [hday] at h hwk
  simp only [Prod.mk.injEq, and_true] at h
  have hD : n / 86400 = Dp.sumY k + Dp.sumM (1970 + (k : Int)) j + (d - 1) := by omega
  refine ⟨?_, by omega, by omega⟩
  rw [hl, showF_at (by omega) (by omega) (by omega) hj (by omega) (by omega) hD, dateL_eq, hD, ← hwk]
  rw [show (3 * (j : Int)).toNat = 3 * j by omega, hjt, show d - 1 + 1 = d by omega,
    show n % 86400 / 3600 = hr by omega, show n % 86400 / 60 % 60 = mi by omega, show n % 86400 % 60 = c by omega, p1, p2, p3, p4, p5]
  rfl

/-- What is shown the reference takes. -/
theorem refF_of_show {s : ByteArray} {b : Int} (h0 : 0 ≤ b) (h1 : b ≤ 2145916799) (hs : s.data.toList = showF b) : refF s = (b, true) := by
  obtain ⟨k, j, q, hk, hj, hq0, hq1, hD⟩ := split_day b h0 h1
  have hlb := Dp.lenF_bd (1970 + (k : Int)) (j : Int)
  rw [showF_at h0 (by omega) (by omega) hj hq0 hq1 hD, dateL_eq] at hs
  have h29 : s.size = 29 := by
    rw [← size_len, hs, ← dateL_eq, ← showF_at h0 (by omega) (by omega) hj hq0 hq1 hD]
    exact showF_len b h0 h1
  obtain ⟨a0, a1, a2, ha⟩ := list3 (l := (Dp.weekL.drop (3 * (b / 86400 % 7)).toNat).take 3) (by rw [List.length_take, List.length_drop, show Dp.weekL.length = 21 from rfl]; omega)
  rw [show (3 * (j : Int)).toNat = 3 * j by omega] at hs
  obtain ⟨b0, b1, b2, hb⟩ := list3 (d_cut_len Dp.monthsL j (by show _ ≤ 36; omega))
  have p1 := digF_putF (k := 2) (n := q + 1) (by omega) (val_two _ (by omega) (by omega))
  have p2 := digF_putF (k := 4) (n := 1970 + (k : Int)) (by omega) (val_four _ (by omega) (by omega))
  have p3 := digF_putF (k := 2) (n := b % 86400 / 3600) (by omega) (val_two _ (by omega) (by omega))
  have p4 := digF_putF (k := 2) (n := b % 86400 / 60 % 60) (by omega) (val_two _ (by omega) (by omega))
  have p5 := digF_putF (k := 2) (n := b % 86400 % 60) (by omega) (val_two _ (by omega) (by omega))
  have p6 := lastHit_at j hj
  have hday : Dp.dayOf (q + 1) (j : Int) (1970 + (k : Int)) = b / 86400 := by
    unfold Dp.dayOf
    rw [show (1970 + (k : Int) - 1970).toNat = k by omega, Int.toNat_natCast]
    omega
  generalize hn1 : q + 1 = n1 at *
  generalize hn2 : 1970 + (k : Int) = n2 at *
  generalize hn3 : b % 86400 / 3600 = n3 at *
  generalize hn4 : b % 86400 / 60 % 60 = n4 at *
  generalize hn5 : b % 86400 % 60 = n5 at *
  rw [hb] at p6
  have hsl : s.data.toList = [a0, a1, a2, 44, 32, dgt (n1 / 10), dgt n1, 32, b0, b1, b2, 32, dgt (n2 / 10 / 10 / 10), dgt (n2 / 10 / 10), dgt (n2 / 10), dgt n2, 32, dgt (n3 / 10), dgt n3, 58, dgt (n4 / 10), dgt n4, 58, dgt (n5 / 10), dgt n5, 32, 71, 77, 84] := by
    rw [hs, ha, hb]
    rfl
  have hsh : shapeB s h29 = true := by
    unfold shapeB
    have e : (s.extract 25 29).toList = [32, 71, 77, 84] := by rw [Lib.toList_data, Lib.extract_data, hsl]; rfl
    rw [e]
    simp only [getElem_data, hsl]
    rfl
  unfold refF
  rw [dif_pos h29, if_pos hsh, hsl]
  simp only
  have c1 : digF (cut [a0, a1, a2, 44, 32, dgt (n1 / 10), dgt n1, 32, b0, b1, b2, 32, dgt (n2 / 10 / 10 / 10), dgt (n2 / 10 / 10), dgt (n2 / 10), dgt n2, 32, dgt (n3 / 10), dgt n3, 58, dgt (n4 / 10), dgt n4, 58, dgt (n5 / 10), dgt n5, 32, 71, 77, 84] 5 7) = n1 := p1
  have c2 : lastHit (cut [a0, a1, a2, 44, 32, dgt (n1 / 10), dgt n1, 32, b0, b1, b2, 32, dgt (n2 / 10 / 10 / 10), dgt (n2 / 10 / 10), dgt (n2 / 10), dgt n2, 32, dgt (n3 / 10), dgt n3, 58, dgt (n4 / 10), dgt n4, 58, dgt (n5 / 10), dgt n5, 32, 71, 77, 84] 8 11) 12 = (j : Int) := p6
  have c3 : digF (cut [a0, a1, a2, 44, 32, dgt (n1 / 10), dgt n1, 32, b0, b1, b2, 32, dgt (n2 / 10 / 10 / 10), dgt (n2 / 10 / 10), dgt (n2 / 10), dgt n2, 32, dgt (n3 / 10), dgt n3, 58, dgt (n4 / 10), dgt n4, 58, dgt (n5 / 10), dgt n5, 32, 71, 77, 84] 12 16) = n2 := p2
  have c4 : digF (cut [a0, a1, a2, 44, 32, dgt (n1 / 10), dgt n1, 32, b0, b1, b2, 32, dgt (n2 / 10 / 10 / 10), dgt (n2 / 10 / 10), dgt (n2 / 10), dgt n2, 32, dgt (n3 / 10), dgt n3, 58, dgt (n4 / 10), dgt n4, 58, dgt (n5 / 10), dgt n5, 32, 71, 77, 84] 17 19) = n3 := p3
  have c5 : digF (cut [a0, a1, a2, 44, 32, dgt (n1 / 10), dgt n1, 32, b0, b1, b2, 32, dgt (n2 / 10 / 10 / 10), dgt (n2 / 10 / 10), dgt (n2 / 10), dgt n2, 32, dgt (n3 / 10), dgt n3, 58, dgt (n4 / 10), dgt n4, 58, dgt (n5 / 10), dgt n5, 32, 71, 77, 84] 20 22) = n4 := p4
  have c6 : digF (cut [a0, a1, a2, 44, 32, dgt (n1 / 10), dgt n1, 32, b0, b1, b2, 32, dgt (n2 / 10 / 10 / 10), dgt (n2 / 10 / 10), dgt (n2 / 10), dgt n2, 32, dgt (n3 / 10), dgt n3, 58, dgt (n4 / 10), dgt n4, 58, dgt (n5 / 10), dgt n5, 32, 71, 77, 84] 23 25) = n5 := p5
  rw [c1, c2, c3, c4, c5, c6, hday]
  rw [if_pos (by refine ⟨?_, ?_, ?_, ?_, ?_, ?_, ?_, ?_, ?_, ?_, ?_⟩ <;> omega), if_pos (by rw [ha]; rfl)]
  congr 1
  omega

theorem refF_cases (s : ByteArray) : refF s = (0, false) ∨ ∃ n, refF s = (n, true) := by
  unfold refF
  split
  · split
    · simp only
      split
      · split
        · exact Or.inr ⟨_, rfl⟩
        · exact Or.inl rfl
      · exact Or.inl rfl
    · exact Or.inl rfl
  · exact Or.inl rfl
theorem readF_cases (l : List UInt8) : Dp.readF l = (0, false) ∨ ∃ n, Dp.readF l = (n, true) := by
  unfold Dp.readF
  generalize (Dp.parse l).1 = x
  generalize (Dp.parse l).2 = st
  obtain ⟨w, d, m, y, h, mi, s⟩ := x
  match st with
  | none => exact Or.inl rfl
  | some (_ :: _) => exact Or.inl rfl
  | some [] =>
    simp only [Dp.fin, Dp.tell]
    split
    · exact Or.inl rfl
    · split
      · exact Or.inr ⟨_, rfl⟩
      · exact Or.inl rfl
theorem refF_eq (s : ByteArray) : refF s = Dp.readF s.data.toList := by
  rcases refF_cases s with h | ⟨n, h⟩
  · rcases readF_cases s.data.toList with g | ⟨b, g⟩
    · rw [h, g]
    · obtain ⟨e, b0, b1⟩ := show_read g
      rw [refF_of_show b0 b1 e.symm] at h
      simp at h
  · obtain ⟨e, n0, n1⟩ := refF_show h
    rw [h, e, read_show n n0 n1]

end Go.Proofs.Ytdcdckjdloddiaa
