/-
  The plain laws of chapter 17's dates: what is shown is read again, what is read is shown again.
-/
import Derived.Test.YtdcdckjdloddiaaDayShow
namespace Go.Proofs.Ytdcdckjdloddiaa
open Go.RowKit

theorem dgt_toNat (n : Int) (_ : 0 ≤ n) : ((dgt n).toNat : Int) = 48 + n % 10 := by
  unfold dgt
  rw [byteOf_toNat (by omega) (by omega)]
theorem dgt_dig (n : Int) (h : 0 ≤ n) : Dp.isDig (dgt n) = true := by
  have := dgt_toNat n h
  unfold Dp.isDig
  simp
  omega
theorem dgt_of {c : UInt8} {v : Int} (hv : 0 ≤ v) (hc : Dp.isDig c = true) : dgt (10 * v + ((c.toNat : Int) - 48)) = c := by
  unfold Dp.isDig at hc
  simp at hc
  have h := dgt_toNat (10 * v + ((c.toNat : Int) - 48)) (by omega)
  have : (dgt (10 * v + ((c.toNat : Int) - 48))).toNat = c.toNat := by omega
  exact UInt8.toNat_inj.1 this
theorem list_snoc {α : Type} (l : List α) (h : l ≠ []) : ∃ t c, l = t ++ [c] := ⟨l.dropLast, l.getLast h, (List.dropLast_concat_getLast h).symm⟩
theorem putF_val : ∀ (k : Nat) (t acc : List UInt8), t.length = k → t.all Dp.isDig = true → putF k (Dp.val t) acc = t ++ acc
  | 0, t, acc, h, _ => by
    have : t = [] := List.eq_nil_of_length_eq_zero h
    subst this
    rfl
  | k + 1, t, acc, h, hd => by
    obtain ⟨u, c, rfl⟩ := list_snoc t (by intro e; subst e; simp at h)
    rw [Dp.all_snoc, Bool.and_eq_true] at hd
    have hu : u.length = k := by simpa using h
    have hn := Dp.val_nonneg u hd.1
    have hc := hd.2
    unfold Dp.isDig at hc
    simp at hc
    rw [Dp.val_snoc, putF, dgt_of hn hd.2, show (10 * Dp.val u + ((c.toNat : Int) - 48)) / 10 = Dp.val u by omega, putF_val k u _ hu hd.1]
    simp
theorem val_two (n : Int) (h0 : 0 ≤ n) (h1 : n ≤ 99) : Dp.val (putF 2 n []) = n := by
  have a := dgt_toNat (n / 10) (by omega)
  have b := dgt_toNat n h0
  show 10 * (10 * 0 + (((dgt (n / 10)).toNat : Int) - 48)) + (((dgt n).toNat : Int) - 48) = n
  omega
theorem val_four (n : Int) (h0 : 0 ≤ n) (h1 : n ≤ 9999) : Dp.val (putF 4 n []) = n := by
  have a := dgt_toNat (n / 10 / 10 / 10) (by omega)
  have b := dgt_toNat (n / 10 / 10) (by omega)
  have c := dgt_toNat (n / 10) (by omega)
  have d := dgt_toNat n h0
  show 10 * (10 * (10 * (10 * 0 + (((dgt (n / 10 / 10 / 10)).toNat : Int) - 48)) + (((dgt (n / 10 / 10)).toNat : Int) - 48)) + (((dgt (n / 10)).toNat : Int) - 48)) + (((dgt n).toNat : Int) - 48) = n
  omega
theorem putF_dig : ∀ (k : Nat) (n : Int) (acc : List UInt8), 0 ≤ n → acc.all Dp.isDig = true → (putF k n acc).all Dp.isDig = true
  | 0, _, _, _, h => h
  | k + 1, n, acc, h0, h => putF_dig k _ _ (by omega) (by simp only [List.all_cons, dgt_dig n h0, h, Bool.and_self])

/-! ### what was written is read -/
theorem pSign_cat (p r : List UInt8) : Dp.pSign p (some (p ++ r)) = some r := by
  simp [Dp.pSign]
theorem pNum_cat {k : Nat} {lo hi n : Int} (r : List UInt8) (h0 : 0 ≤ n) (hv : Dp.val (putF k n []) = n) (h1 : lo ≤ n) (h2 : n ≤ hi) : Dp.pNum k lo hi (some (putF k n [] ++ r)) = (n, some r) := by
  have hl : (putF k n []).length = k := by rw [putF_len]; rfl
  have ht : (putF k n [] ++ r).take k = putF k n [] := by rw [List.take_append_of_le_length (by omega), List.take_of_length_le (by omega)]
  have hd : (putF k n [] ++ r).drop k = r := by rw [List.drop_append_of_le_length (by omega), List.drop_of_length_le (by omega)]; rfl
  show (if _ then _ else _) = _
  rw [if_pos]
  · rw [ht, hd, hv]
  · rw [Dp.numOk_iff, ht, hv, List.length_append, hl]
    exact ⟨by omega, putF_dig k n [] h0 rfl, h1, h2⟩
theorem hit_cat (all t r : List UInt8) (ht : t.length = 3) (j : Nat) : Dp.hit all (t ++ r) j = Dp.hit all t j := by
  unfold Dp.hit
  rw [List.take_append_of_le_length (by omega)]
theorem find_cat (n : Nat) (all t r : List UInt8) (ht : t.length = 3) : Dp.find n all (t ++ r) = Dp.find n all t := by
  unfold Dp.find
  congr 1
  funext j
  exact hit_cat all t r ht j
theorem week_find : ∀ j, j < 7 → Dp.find 7 Dp.weekL ((Dp.weekL.drop (3 * j)).take 3) = some j := by decide +kernel
theorem months_find : ∀ j, j < 12 → Dp.find 12 Dp.monthsL ((Dp.monthsL.drop (3 * j)).take 3) = some j := by decide +kernel
theorem d_cut_len (all : List UInt8) (j : Nat) (h : 3 * j + 3 ≤ all.length) : ((all.drop (3 * j)).take 3).length = 3 := by
  rw [List.length_take, List.length_drop]; omega
theorem pName_cat {n : Nat} {all : List UInt8} (j : Nat) (r : List UInt8) (hl : ((all.drop (3 * j)).take 3).length = 3) (hf : Dp.find n all ((all.drop (3 * j)).take 3) = some j) :
    Dp.pName n all (some ((all.drop (3 * j)).take 3 ++ r)) = ((j : Int), some r) := by
  simp only [Dp.pName]
  rw [find_cat _ _ _ _ hl, hf]
  simp only
  rw [List.drop_append_of_le_length (by omega), List.drop_of_length_le (by omega)]
  rfl

/-! ### what was read is written so -/
theorem pSign_inv {p l r : List UInt8} (h : Dp.pSign p (some l) = some r) : l = p ++ r := by
  simp only [Dp.pSign] at h
  split at h
  · rename_i e
    simp only [Option.some.injEq] at h
    subst h
    conv => lhs; rw [← List.take_append_drop p.length l]
    rw [e]
  · cases h
theorem pNum_inv {k : Nat} {lo hi v : Int} {l r : List UInt8} (h : Dp.pNum k lo hi (some l) = (v, some r)) : l = putF k v [] ++ r ∧ lo ≤ v ∧ v ≤ hi := by
  simp only [Dp.pNum] at h
  split at h
  · rename_i e
    rw [Dp.numOk_iff] at e
    simp only [Prod.mk.injEq, Option.some.injEq] at h
    obtain ⟨h1, h2⟩ := h
    subst h1 h2
    rw [putF_val k _ [] (by rw [List.length_take]; omega) e.2.1]
    refine ⟨?_, e.2.2.1, e.2.2.2⟩
    rw [List.append_nil, List.take_append_drop]
  · simp at h
theorem pName_inv {n : Nat} {all l r : List UInt8} {v : Int} (h : Dp.pName n all (some l) = (v, some r)) : ∃ j : Nat, v = (j : Int) ∧ j < n ∧ l = (all.drop (3 * j)).take 3 ++ r := by
  simp only [Dp.pName] at h
  cases hf : Dp.find n all l with
  | none => rw [hf] at h; simp at h
  | some j =>
    rw [hf] at h
    simp only [Prod.mk.injEq, Option.some.injEq] at h
    obtain ⟨h1, h2⟩ := h
    unfold Dp.find at hf
    have hm := List.mem_of_find?_eq_some hf
    have hh := List.find?_some hf
    rw [List.mem_range] at hm
    unfold Dp.hit at hh
    have hh := eq_of_beq hh
    refine ⟨j, h1.symm, hm, ?_⟩
    rw [← hh, ← h2, List.take_append_drop]

/-! ### the calendar -/
theorem sumY_mono {i k : Nat} (h : i < k) : Dp.sumY i + Dp.yearF (1970 + (i : Int)) ≤ Dp.sumY k := by
  induction k with
  | zero => omega
  | succ k ih =>
    have hb := Dp.yearF_bd (1970 + (k : Int))
    show _ ≤ Dp.sumY k + Dp.yearF (1970 + (k : Int))
    by_cases e : i = k
    · subst e; omega
    · have := ih (by omega); omega
theorem sumM_mono (y : Int) {i k : Nat} (h : i < k) : Dp.sumM y i + Dp.lenF y (i : Int) ≤ Dp.sumM y k := by
  induction k with
  | zero => omega
  | succ k ih =>
    have hb := Dp.lenF_bd y (k : Int)
    show _ ≤ Dp.sumM y k + Dp.lenF y (k : Int)
    by_cases e : i = k
    · subst e; omega
    · have := ih (by omega); omega
theorem goY_at (k : Nat) (r : Int) (hr0 : 0 ≤ r) (hr : r < Dp.yearF (1970 + (k : Int))) : ∀ (f i : Nat), i ≤ k → k - i ≤ f → Dp.goY f i (Dp.sumY k - Dp.sumY i + r) = (k, r)
  | 0, i, h1, h2 => by
    have : i = k := by omega
    subst this
    simp [Dp.goY]
  | f + 1, i, h1, h2 => by
    by_cases e : i = k
    · subst e
      rw [show Dp.sumY i - Dp.sumY i + r = r by omega]
      exact Dp.goY_stop hr
    · have hm := sumY_mono (show i < k by omega)
      rw [Dp.goY_next (by omega)]
      have h3 : Dp.sumY k - Dp.sumY i + r - Dp.yearF (1970 + (i : Int)) = Dp.sumY k - Dp.sumY (i + 1) + r := by
        show _ = Dp.sumY k - (Dp.sumY i + Dp.yearF (1970 + (i : Int))) + r
        omega
      rw [h3]
      exact goY_at k r hr0 hr f (i + 1) (by omega) (by omega)
theorem goM_at (y : Int) (k : Nat) (r : Int) (hr0 : 0 ≤ r) (hr : r < Dp.lenF y (k : Int)) : ∀ (f i : Nat), i ≤ k → k - i ≤ f → Dp.goM y f i (Dp.sumM y k - Dp.sumM y i + r) = (k, r)
  | 0, i, h1, h2 => by
    have : i = k := by omega
    subst this
    simp [Dp.goM]
  | f + 1, i, h1, h2 => by
    by_cases e : i = k
    · subst e
      rw [show Dp.sumM y i - Dp.sumM y i + r = r by omega]
      exact Dp.goM_stop hr
    · have hm := sumM_mono y (show i < k by omega)
      rw [Dp.goM_next (by omega)]
      have h3 : Dp.sumM y k - Dp.sumM y i + r - Dp.lenF y (i : Int) = Dp.sumM y k - Dp.sumM y (i + 1) + r := by
        show _ = Dp.sumM y k - (Dp.sumM y i + Dp.lenF y (i : Int)) + r
        omega
      rw [h3]
      exact goM_at y k r hr0 hr f (i + 1) (by omega) (by omega)
/-- Each day has its year, month and day. -/
theorem find_year (D : Int) (h0 : 0 ≤ D) (k0 : Nat) (h1 : D < Dp.sumY k0) : ∃ (k : Nat) (d : Int), k < k0 ∧ 0 ≤ d ∧ d < Dp.yearF (1970 + (k : Int)) ∧ D = Dp.sumY k + d := by
  induction k0 with
  | zero => simp [Dp.sumY] at h1; omega
  | succ k ih =>
    by_cases h : D < Dp.sumY k
    · obtain ⟨a, d, ha, r⟩ := ih h
      exact ⟨a, d, by omega, r⟩
    · have h1 : D < Dp.sumY k + Dp.yearF (1970 + (k : Int)) := h1
      exact ⟨k, D - Dp.sumY k, by omega, by omega, by omega, by omega⟩
theorem find_month (y D : Int) (h0 : 0 ≤ D) (k0 : Nat) (h1 : D < Dp.sumM y k0) : ∃ (k : Nat) (d : Int), k < k0 ∧ 0 ≤ d ∧ d < Dp.lenF y (k : Int) ∧ D = Dp.sumM y k + d := by
  induction k0 with
  | zero => simp [Dp.sumM] at h1; omega
  | succ k ih =>
    by_cases h : D < Dp.sumM y k
    · obtain ⟨a, d, ha, r⟩ := ih h
      exact ⟨a, d, by omega, r⟩
    · have h1 : D < Dp.sumM y k + Dp.lenF y (k : Int) := h1
      exact ⟨k, D - Dp.sumM y k, by omega, by omega, by omega, by omega⟩
theorem sumY_68 : Dp.sumY 68 = 24837 := by decide +kernel

/-- A number up to the end of 2037, as a year, a month, a day and a second. -/
theorem split_day (c : Int) (h0 : 0 ≤ c) (h1 : c ≤ 2145916799) : ∃ (k j : Nat) (q : Int), k < 68 ∧ j < 12 ∧ 0 ≤ q ∧ q < Dp.lenF (1970 + (k : Int)) (j : Int) ∧ c / 86400 = Dp.sumY k + Dp.sumM (1970 + (k : Int)) j + q := by
  obtain ⟨k, d, hk, hd0, hd1, hD⟩ := find_year (c / 86400) (by omega) 68 (by rw [sumY_68]; omega)
  obtain ⟨j, q, hj, hq0, hq1, hq⟩ := find_month (1970 + (k : Int)) d hd0 12 (by rw [Dp.sumM_year]; exact hd1)
  exact ⟨k, j, q, hk, hj, hq0, hq1, by omega⟩
theorem year_part {y : Int} {j : Nat} {q : Int} (hj : j < 12) (hq0 : 0 ≤ q) (hq1 : q < Dp.lenF y (j : Int)) : 0 ≤ Dp.sumM y j + q ∧ Dp.sumM y j + q < Dp.yearF y := by
  have h1 := Dp.sumM_bd y j
  have h2 := sumM_mono y hj
  rw [Dp.sumM_year] at h2
  omega
/-- What is shown of a number that lies in its year, month and day. -/
theorem showF_at {c : Int} {k j : Nat} {q : Int} (h0 : 0 ≤ c) (h1 : c ≤ 2147483647) (hk : k ≤ 100) (hj : j < 12) (hq0 : 0 ≤ q) (hq1 : q < Dp.lenF (1970 + (k : Int)) (j : Int)) (hD : c / 86400 = Dp.sumY k + Dp.sumM (1970 + (k : Int)) j + q) :
    showF c = dateL (c / 86400 % 7) q j (1970 + (k : Int)) (c % 86400) := by
  have hc : Dp.clamp c = c := by
    unfold Dp.clamp
    rw [if_neg (by omega), if_neg (by omega)]
  have hp := year_part hj hq0 hq1
  have hy : Dp.goY 100 0 (c / 86400) = (k, Dp.sumM (1970 + (k : Int)) j + q) := by
    have := goY_at k (Dp.sumM (1970 + (k : Int)) j + q) hp.1 hp.2 100 0 (by omega) (by omega)
    rw [← this]
    congr 1
    show _ = Dp.sumY k - 0 + _
    omega
  have hm : Dp.goM (1970 + (k : Int)) 20 0 (Dp.sumM (1970 + (k : Int)) j + q) = (j, q) := by
    have := goM_at (1970 + (k : Int)) j q hq0 hq1 20 0 (by omega) (by omega)
    rw [← this]
    congr 1
    show _ = Dp.sumM _ j - 0 + _
    omega
  exact showF_eq hc rfl rfl hy rfl hm

/-- A date's text, byte for byte, taken apart from the front. -/
theorem dateL_eq (w d m y s : Int) : dateL w d m y s = (Dp.weekL.drop (3 * w).toNat).take 3 ++ ([44, 32] ++ (putF 2 (d + 1) [] ++ ([32] ++ ((Dp.monthsL.drop (3 * m).toNat).take 3 ++ ([32] ++ (putF 4 y [] ++ ([32] ++ (putF 2 (s / 3600) [] ++ ([58] ++ (putF 2 (s / 60 % 60) [] ++ ([58] ++ (putF 2 (s % 60) [] ++ ([32, 71, 77, 84] ++ []))))))))))))) := by
  unfold dateL
  simp only [List.append_assoc, List.append_nil]

theorem parse_date {w j : Nat} {q y s : Int} (hw : w < 7) (hj : j < 12) (hq0 : 0 ≤ q) (hq1 : q ≤ 30) (hy0 : 1970 ≤ y) (hy1 : y ≤ 2037) (hs0 : 0 ≤ s) (hs1 : s < 86400) :
    Dp.parse (dateL w q j y s) = (((w : Int), q + 1, (j : Int), y, s / 3600, s / 60 % 60, s % 60), some []) := by
  rw [dateL_eq, show (3 * (w : Int)).toNat = 3 * w by omega, show (3 * (j : Int)).toNat = 3 * j by omega]
  exact parse_of (pName_cat w _ (d_cut_len _ w (by show _ ≤ 21; omega)) (week_find w hw)) (pSign_cat _ _)
    (pNum_cat _ (by omega) (val_two _ (by omega) (by omega)) (by omega) (by omega)) (pSign_cat _ _)
    (pName_cat j _ (d_cut_len _ j (by show _ ≤ 36; omega)) (months_find j hj)) (pSign_cat _ _)
    (pNum_cat _ (by omega) (val_four _ (by omega) (by omega)) (by omega) (by omega)) (pSign_cat _ _)
    (pNum_cat _ (by omega) (val_two _ (by omega) (by omega)) (by omega) (by omega)) (pSign_cat _ _)
    (pNum_cat _ (by omega) (val_two _ (by omega) (by omega)) (by omega) (by omega)) (pSign_cat _ _)
    (pNum_cat _ (by omega) (val_two _ (by omega) (by omega)) (by omega) (by omega)) (pSign_cat _ _)

/-- What is shown is read. -/
theorem read_show (c : Int) (h0 : 0 ≤ c) (h1 : c ≤ 2145916799) : Dp.readF (showF c) = (c, true) := by
  obtain ⟨k, j, q, hk, hj, hq0, hq1, hD⟩ := split_day c h0 h1
  have hlb := Dp.lenF_bd (1970 + (k : Int)) (j : Int)
  rw [showF_at h0 (by omega) (by omega) hj hq0 hq1 hD]
  obtain ⟨w, hw⟩ := Int.eq_ofNat_of_zero_le (show 0 ≤ c / 86400 % 7 by omega)
  rw [hw]
  unfold Dp.readF
  rw [parse_date (by omega) hj hq0 (by omega) (by omega) (by omega) (by omega) (by omega)]
  simp only [Dp.fin, Dp.tell]
  have hday : Dp.dayOf (q + 1) (j : Int) (1970 + (k : Int)) = c / 86400 := by
    unfold Dp.dayOf
    rw [show (1970 + (k : Int) - 1970).toNat = k by omega, Int.toNat_natCast]
    omega
  rw [if_neg (by omega), hday, if_pos (by rw [Int.tmod_eq_emod_of_nonneg (by omega)]; exact hw)]
  congr 1
  omega

theorem pSign_back {p r : List UInt8} {st : Option (List UInt8)} (h : Dp.pSign p st = some r) : st = some (p ++ r) := by
  cases st with
  | none => simp [Dp.pSign] at h
  | some l => rw [pSign_inv h]
theorem pNum_back {k : Nat} {lo hi v : Int} {r : List UInt8} {st : Option (List UInt8)} (h : Dp.pNum k lo hi st = (v, some r)) : st = some (putF k v [] ++ r) ∧ lo ≤ v ∧ v ≤ hi := by
  cases st with
  | none => simp [Dp.pNum] at h
  | some l =>
    obtain ⟨a, b, c⟩ := pNum_inv h
    exact ⟨by rw [← a], b, c⟩
theorem pName_back {n : Nat} {all r : List UInt8} {v : Int} {st : Option (List UInt8)} (h : Dp.pName n all st = (v, some r)) : ∃ j : Nat, v = (j : Int) ∧ j < n ∧ st = some ((all.drop (3 * j)).take 3 ++ r) := by
  cases st with
  | none => simp [Dp.pName] at h
  | some l =>
    obtain ⟨j, a, b, c⟩ := pName_inv h
    exact ⟨j, a, b, by rw [← c]⟩
theorem parse_inv {l : List UInt8} {w d m y h mi sec : Int} (hp : Dp.parse l = ((w, d, m, y, h, mi, sec), some [])) :
    ∃ a j : Nat, w = (a : Int) ∧ a < 7 ∧ m = (j : Int) ∧ j < 12 ∧ 1 ≤ d ∧ d ≤ 31 ∧ 1970 ≤ y ∧ y ≤ 2037 ∧ 0 ≤ h ∧ h ≤ 23 ∧ 0 ≤ mi ∧ mi ≤ 59 ∧ 0 ≤ sec ∧ sec ≤ 59 ∧
      l = (Dp.weekL.drop (3 * a)).take 3 ++ ([44, 32] ++ (putF 2 d [] ++ ([32] ++ ((Dp.monthsL.drop (3 * j)).take 3 ++ ([32] ++ (putF 4 y [] ++ ([32] ++ (putF 2 h [] ++ ([58] ++ (putF 2 mi [] ++ ([58] ++ (putF 2 sec [] ++ ([32, 71, 77, 84] ++ []))))))))))))) := by
  unfold Dp.parse at hp
  simp only at hp
  cases h1 : Dp.pName 7 Dp.weekL (some l) with | mk x1 s1 => ?_
  rw [h1] at hp
  cases h2 : Dp.pNum 2 1 31 (Dp.pSign [44, 32] s1) with | mk x2 s2 => ?_
  simp only [h2] at hp
  cases h3 : Dp.pName 12 Dp.monthsL (Dp.pSign [32] s2) with | mk x3 s3 => ?_
  simp only [h3] at hp
  cases h4 : Dp.pNum 4 1970 2037 (Dp.pSign [32] s3) with | mk x4 s4 => ?_
  simp only [h4] at hp
  cases h5 : Dp.pNum 2 0 23 (Dp.pSign [32] s4) with | mk x5 s5 => ?_
  simp only [h5] at hp
  cases h6 : Dp.pNum 2 0 59 (Dp.pSign [58] s5) with | mk x6 s6 => ?_
  simp only [h6] at hp
  cases h7 : Dp.pNum 2 0 59 (Dp.pSign [58] s6) with | mk x7 s7 => ?_
  simp only [h7, Prod.mk.injEq] at hp
  obtain ⟨⟨rfl, rfl, rfl, rfl, rfl, rfl, rfl⟩, hp⟩ := hp
  have g7 := pSign_back hp
  subst g7
  obtain ⟨g, b7, c7⟩ := pNum_back h7
  have g := pSign_back g
  subst g
  obtain ⟨g, b6, c6⟩ := pNum_back h6
  have g := pSign_back g
  subst g
  obtain ⟨g, b5, c5⟩ := pNum_back h5
  have g := pSign_back g
  subst g
  obtain ⟨g, b4, c4⟩ := pNum_back h4
  have g := pSign_back g
  subst g
  obtain ⟨j, b3, c3, g⟩ := pName_back h3
  have g := pSign_back g
  subst g
  obtain ⟨g, b2, c2⟩ := pNum_back h2
  have g := pSign_back g
  subst g
  obtain ⟨a, b1, c1, g⟩ := pName_back h1
  simp only [Option.some.injEq] at g
  exact ⟨a, j, b1, c1, b3, c3, b2, c2, b4, c4, b5, c5, b6, c6, b7, c7, g⟩

/-- What is read is shown. -/
theorem show_read {l : List UInt8} {b : Int} (h : Dp.readF l = (b, true)) : showF b = l ∧ 0 ≤ b ∧ b ≤ 2145916799 := by
  unfold Dp.readF at h
  cases hp : Dp.parse l with
  | mk x st =>
    rw [hp] at h
    simp only at h
    cases st with
    | none => simp [Dp.fin] at h
    | some l' =>
      cases l' with
      | cons c t => simp [Dp.fin] at h
      | nil =>
        obtain ⟨w, d, m, y, hh, mi, sec⟩ := x
        simp only [Dp.fin, Dp.tell] at h
        split at h
        · simp at h
        · rename_i hlen
          split at h
          · rename_i hmod
            simp only [Prod.mk.injEq, and_true] at h
            obtain ⟨a, j, rfl, ha, rfl, hj, d0, d1, y0, y1, h0, h1, m0, m1, s0, s1, hl⟩ := parse_inv hp
            obtain ⟨k, hk⟩ := Int.eq_ofNat_of_zero_le (show 0 ≤ y - 1970 by omega)
            have hy : y = 1970 + (k : Int) := by omega
            subst hy
            have hyb := sumY_mono (i := k) (k := 68) (by omega)
            rw [sumY_68] at hyb
            have hyl := Dp.sumY_bd k
            have hq := year_part (y := 1970 + (k : Int)) (j := j) (q := d - 1) hj (by omega) (by omega)
            have hday : Dp.dayOf d (j : Int) (1970 + (k : Int)) = Dp.sumY k + Dp.sumM (1970 + (k : Int)) j + (d - 1) := by
              unfold Dp.dayOf
              rw [show (1970 + (k : Int) - 1970).toNat = k by omega, Int.toNat_natCast]
              omega
            rw [hday] at h hmod
            rw [Int.tmod_eq_emod_of_nonneg (by omega)] at hmod
            have hD : b / 86400 = Dp.sumY k + Dp.sumM (1970 + (k : Int)) j + (d - 1) := by omega
            refine ⟨?_, by omega, by omega⟩
            rw [showF_at (by omega) (by omega) (by omega) hj (by omega) (by omega) hD, dateL_eq, hD, hmod]
            rw [show (3 * (a : Int)).toNat = 3 * a by omega, show (3 * (j : Int)).toNat = 3 * j by omega, show d - 1 + 1 = d by omega,
              show b % 86400 / 3600 = hh by omega, show b % 86400 / 60 % 60 = mi by omega, show b % 86400 % 60 = sec by omega]
            exact hl.symm
          · simp at h

theorem dateL_parts (w d m y s : Int) : dateL w d m y s = ((Dp.weekL.drop (3 * w).toNat).take 3 ++ ([44, 32] ++ (putF 2 (d + 1) [] ++ ([32] ++ ((Dp.monthsL.drop (3 * m).toNat).take 3 ++ ([32] ++ (putF 4 y [] ++ [32]))))))) ++ ((putF 2 (s / 3600) [] ++ ([58] ++ putF 2 (s / 60 % 60) [])) ++ ([58] ++ (putF 2 (s % 60) [] ++ [32, 71, 77, 84]))) := by
  unfold dateL
  simp only [List.append_assoc]
def dayL (c : Int) (j : Nat) (q y : Int) : List UInt8 := (Dp.weekL.drop (3 * (c / 86400 % 7)).toNat).take 3 ++ ([44, 32] ++ (putF 2 (q + 1) [] ++ ([32] ++ ((Dp.monthsL.drop (3 * (j : Int)).toNat).take 3 ++ ([32] ++ (putF 4 y [] ++ [32]))))))
def minL (c : Int) : List UInt8 := putF 2 (c % 86400 / 3600) [] ++ ([58] ++ putF 2 (c % 86400 / 60 % 60) [])
def secL (c : Int) : List UInt8 := [58] ++ (putF 2 (c % 86400 % 60) [] ++ [32, 71, 77, 84])
theorem dayL_len (c : Int) (j : Nat) (q y : Int) (_ : 0 ≤ c) (hj : j < 12) : (dayL c j q y).length = 17 := by
  have h1 : ((Dp.weekL.drop (3 * (c / 86400 % 7)).toNat).take 3).length = 3 := by
    rw [List.length_take, List.length_drop]
    have : Dp.weekL.length = 21 := rfl
    omega
  have h2 : ((Dp.monthsL.drop (3 * (j : Int)).toNat).take 3).length = 3 := by
    rw [List.length_take, List.length_drop]
    have : Dp.monthsL.length = 36 := rfl
    omega
  unfold dayL
  simp only [List.length_append, h1, h2, putF_len]
  rfl
theorem dayL_week (c : Int) (j : Nat) (q y : Int) (_ : 0 ≤ c) : (dayL c j q y).take 3 = (Dp.weekL.drop (3 * (c / 86400 % 7)).toNat).take 3 := by
  have h1 : ((Dp.weekL.drop (3 * (c / 86400 % 7)).toNat).take 3).length = 3 := by
    rw [List.length_take, List.length_drop]
    have : Dp.weekL.length = 21 := rfl
    omega
  unfold dayL
  rw [List.take_append_of_le_length (by omega), List.take_of_length_le (by omega)]
theorem minL_len (c : Int) : (minL c).length = 5 := by
  unfold minL
  simp only [List.length_append, putF_len]
  rfl
theorem secL_len (c : Int) : (secL c).length = 7 := by
  unfold secL
  simp only [List.length_append, putF_len]
  rfl
/-- A date as its day, its minute and its second. -/
theorem showF_parts (c : Int) (h0 : 0 ≤ c) (h1 : c ≤ 2145916799) : ∃ (j : Nat) (q : Int) (y : Int), j < 12 ∧ showF c = dayL c j q y ++ (minL c ++ secL c) ∧ ∀ c', 0 ≤ c' → c' ≤ 2145916799 → c' / 86400 = c / 86400 → showF c' = dayL c j q y ++ (minL c' ++ secL c') := by
  obtain ⟨k, j, q, hk, hj, hq0, hq1, hD⟩ := split_day c h0 h1
  refine ⟨j, q, 1970 + (k : Int), hj, ?_, ?_⟩
  · rw [showF_at h0 (by omega) (by omega) hj hq0 hq1 hD, dateL_parts]
    rfl
  · intro c' g0 g1 g
    rw [showF_at (k := k) (j := j) (q := q) g0 (by omega) (by omega) hj hq0 hq1 (by rw [g]; exact hD), dateL_parts, g]
    rfl
theorem showF_len (c : Int) (h0 : 0 ≤ c) (h1 : c ≤ 2145916799) : (showF c).length = 29 := by
  obtain ⟨j, q, y, hj, h, _⟩ := showF_parts c h0 h1
  rw [h, List.length_append, List.length_append, dayL_len c j q y h0 hj, minL_len, secL_len]
theorem showF_inj {a b : Int} (a0 : 0 ≤ a) (a1 : a ≤ 2145916799) (b0 : 0 ≤ b) (b1 : b ≤ 2145916799) (h : showF a = showF b) : a = b := by
  have h1 := read_show a a0 a1
  rw [h, read_show b b0 b1] at h1
  exact (Prod.mk.inj h1).1.symm
theorem take_cat {α : Type} (a b b' : List α) (n : Nat) (h : n ≤ a.length) : (a ++ b).take n = (a ++ b').take n := by
  rw [List.take_append_of_le_length h, List.take_append_of_le_length h]
theorem next_second (c : Int) (h0 : 0 ≤ c) (h1 : c < 2145916799) (h : c % 60 ≠ 59) : (showF c).take 22 = (showF (c + 1)).take 22 := by
  obtain ⟨j, q, y, hj, e, f⟩ := showF_parts c h0 (by omega)
  have f1 := f (c + 1) (by omega) (by omega) (by omega)
  have hm : minL (c + 1) = minL c := by
    unfold minL
    rw [show (c + 1) % 86400 / 3600 = c % 86400 / 3600 by omega, show (c + 1) % 86400 / 60 % 60 = c % 86400 / 60 % 60 by omega]
  rw [e, f1, hm]
  simp only [← List.append_assoc]
  have hl : (dayL c j q y ++ minL c).length = 22 := by rw [List.length_append, dayL_len c j q y h0 hj, minL_len]
  exact take_cat _ _ _ _ (by omega)
theorem next_week (c : Int) (h0 : 0 ≤ c) (h1 : c + 604800 ≤ 2145916799) : (showF c).take 3 = (showF (c + 604800)).take 3 ∧ (showF c).drop 17 = (showF (c + 604800)).drop 17 := by
  obtain ⟨j, q, y, hj, e, _⟩ := showF_parts c h0 (by omega)
  obtain ⟨j', q', y', hj', e', _⟩ := showF_parts (c + 604800) (by omega) h1
  have l1 := dayL_len c j q y h0 hj
  have l2 := dayL_len (c + 604800) j' q' y' (by omega) hj'
  rw [e, e']
  constructor
  · rw [List.take_append_of_le_length (by omega), List.take_append_of_le_length (by omega), dayL_week c j q y h0, dayL_week _ j' q' y' (by omega), show (c + 604800) / 86400 % 7 = c / 86400 % 7 by omega]
  · rw [List.drop_append_of_le_length (by omega), List.drop_append_of_le_length (by omega), List.drop_of_length_le (by omega), List.drop_of_length_le (by omega)]
    have hs : (c + 604800) % 86400 = c % 86400 := by omega
    unfold minL secL
    rw [hs]

end Go.Proofs.Ytdcdckjdloddiaa
