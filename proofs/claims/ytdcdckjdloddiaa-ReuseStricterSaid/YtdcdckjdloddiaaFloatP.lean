/-
  A share of a whole number, in float64: what it is.
-/
import Derived.Laws.FloatArith
namespace Go.Proofs.Ytdcdckjdloddiaa
open Ieee
set_option linter.unusedVariables false

theorem cut_zero_nat (neg : Bool) (n d : Nat) : Toward.zero.cut neg n d = n / 2 ^ d := by
  unfold Toward.cut
  simp only [Bool.toNat_false, Nat.add_zero, Nat.one_shiftLeft]
  rcases Nat.lt_or_ge (n.log2 + 2) d with h | h
  · rw [Nat.min_eq_right (by omega)]
    have h1 : n < 2 ^ (n.log2 + 1) := Nat.lt_log2_self
    have h2 : 2 ^ (n.log2 + 1) ≤ 2 ^ (n.log2 + 2) := Nat.pow_le_pow_right (by decide) (by omega)
    have h3 : 2 ^ (n.log2 + 1) ≤ 2 ^ d := Nat.pow_le_pow_right (by decide) (by omega)
    rw [Nat.div_eq_of_lt (by omega), Nat.div_eq_of_lt (by omega)]
  · rw [Nat.min_eq_left h]

/-- The even cut: exact where nothing is left; never above a whole number that the exact one is not above. -/
theorem cut_even (n d N : Nat) (h : n ≤ N * 2 ^ d) : Toward.even.cut false n d ≤ N := by
  unfold Toward.cut
  simp only [Nat.one_shiftLeft]
  rcases Nat.lt_or_ge (n.log2 + 2) d with hd | hd
  · rw [Nat.min_eq_right (by omega)]
    have h1 : n < 2 ^ (n.log2 + 1) := Nat.lt_log2_self
    have h2 : 2 ^ (n.log2 + 2) = 2 * 2 ^ (n.log2 + 1) := by rw [Nat.pow_succ 2 (n.log2 + 1)]; omega
    rw [h2]
    rw [Nat.div_eq_of_lt (by omega), Nat.mod_eq_of_lt (by omega)]
    have e1 : decide (2 * 2 ^ (n.log2 + 1) < 2 * n) = false := by simp; omega
    have e2 : (2 * 2 ^ (n.log2 + 1) == 2 * n) = false := by simp; omega
    rw [e1, e2]
    simp
  · rw [Nat.min_eq_left hd]
    have hp : 0 < 2 ^ d := Nat.two_pow_pos d
    have hdm := Nat.div_add_mod n (2 ^ d)
    have hle : n / 2 ^ d ≤ N := by
      have := Nat.div_le_div_right (c := 2 ^ d) h
      rwa [Nat.mul_div_cancel _ hp] at this
    rcases Nat.lt_or_ge (n / 2 ^ d) N with hl | hl
    · refine Nat.le_trans (Nat.add_le_add_left (Bool.toNat_le _) _) ?_
      omega
    · have he : n / 2 ^ d = N := by omega
      have hr : n % 2 ^ d = 0 := by
        rw [he, Nat.mul_comm] at hdm
        omega
      rw [hr, he]
      have e1 : decide (2 ^ d < 2 * 0) = false := by simp
      have e2 : (2 ^ d == 2 * 0) = false := by simp
      rw [e1, e2]
      simp
theorem cut_even_exact (N d : Nat) : Toward.even.cut false (N * 2 ^ d) d = N := by
  refine Nat.le_antisymm (cut_even _ _ _ (Nat.le_refl _)) ?_
  unfold Toward.cut
  simp only [Nat.one_shiftLeft]
  have hp : 0 < 2 ^ d := Nat.two_pow_pos d
  rcases Nat.lt_or_ge ((N * 2 ^ d).log2 + 2) d with hd | hd
  · by_cases hN : N = 0
    · subst hN; exact Nat.zero_le _
    · have h1 : N * 2 ^ d < 2 ^ ((N * 2 ^ d).log2 + 1) := Nat.lt_log2_self
      have h3 : 2 ^ ((N * 2 ^ d).log2 + 1) ≤ 2 ^ d := Nat.pow_le_pow_right (by decide) (by omega)
      have h4 : 2 ^ d ≤ N * 2 ^ d := Nat.le_mul_of_pos_left _ (by omega)
      omega
  · rw [Nat.min_eq_left hd, Nat.mul_div_cancel _ hp]
    omega

theorem signWeight_double : double.signWeight = 9223372036854775808 := by decide
theorem binade_double : double.binade = 4503599627370496 := by decide
theorem infRung_double : double.infRung = 9218868437227405312 := by decide
theorem leastPlace_double : double.leastPlace = -1074 := by decide

/-- A rung's reading. -/
theorem read_rung (d kept : Nat) (hd : d ≤ 1074) (hd1 : 22 ≤ d) (hk : kept ≤ 9007199254740992) (hs : kept < 4503599627370496 → d = 1074) :
    ∃ m' d', double.read ((1074 - d) * 4503599627370496 + kept) = .number false m' (-(d' : Nat)) ∧ m' * 2 ^ d = kept * 2 ^ d' := by
  have hb : (1074 - d) * 4503599627370496 + kept < 9218868437227405312 := by omega
  unfold Format.read
  rw [signWeight_double, binade_double, infRung_double, leastPlace_double]
  have e0 : ((1074 - d) * 4503599627370496 + kept) / 9223372036854775808 = 0 := Nat.div_eq_of_lt (by omega)
  have e1 : ((1074 - d) * 4503599627370496 + kept) % 9223372036854775808 = (1074 - d) * 4503599627370496 + kept := Nat.mod_eq_of_lt (by omega)
  simp only [e0, e1]
  by_cases h1 : (1074 - d) * 4503599627370496 + kept < 4503599627370496
  · have hd2 : d = 1074 := by omega
    subst hd2
    refine ⟨kept, 1074, ?_, by rfl⟩
    rw [if_pos h1]
    simp
  · rw [if_neg h1, if_pos hb]
    have hk2 : 4503599627370496 ≤ kept := by
      rcases Nat.lt_or_ge kept 4503599627370496 with h | h
      · have := hs h; omega
      · exact h
    by_cases h2 : kept = 9007199254740992
    · subst h2
      have f1 : ((1074 - d) * 4503599627370496 + 9007199254740992) % 4503599627370496 = 0 := by omega
      have f2 : ((1074 - d) * 4503599627370496 + 9007199254740992) / 4503599627370496 = 1074 - d + 2 := by omega
      refine ⟨4503599627370496, d - 1, ?_, ?_⟩
      · rw [f1, f2]
        have : (-1074 : Int) + ((1074 - d + 2 - 1 : Nat) : Int) = -((d - 1 : Nat) : Int) := by omega
        rw [this]
        simp
      · rw [show d = (d - 1) + 1 by omega, Nat.pow_succ]
        rw [show d - 1 + 1 - 1 = d - 1 by omega]
        generalize 2 ^ (d - 1) = z
        omega
    · have f1 : ((1074 - d) * 4503599627370496 + kept) % 4503599627370496 = kept - 4503599627370496 := by omega
      have f2 : ((1074 - d) * 4503599627370496 + kept) / 4503599627370496 = 1074 - d + 1 := by omega
      refine ⟨kept, d, ?_, rfl⟩
      rw [f1, f2]
      have : (-1074 : Int) + ((1074 - d + 1 - 1 : Nat) : Int) = -((d : Nat) : Int) := by omega
      rw [this]
      have : 4503599627370496 + (kept - 4503599627370496) = kept := by omega
      rw [this]
      simp

/-- What is kept of a number that is not above n. -/
theorem kept_any (mag q n L d : Nat) (hL : L < 31 + q) (hlo : 2 ^ L ≤ mag) (hhi : mag < 2 ^ (L + 1)) (hd : min (q + 52 - L) 1074 = d) (h : mag ≤ n * 2 ^ q) :
    ∃ K, Toward.even.cut false (mag * 2 ^ (d - q)) (q - d) = K ∧ K ≤ n * 2 ^ d ∧ (mag = n * 2 ^ q → K = n * 2 ^ d) ∧ K ≤ 9007199254740992 ∧ (K < 4503599627370496 → d = 1074) := by
  have hsplit : mag * 2 ^ (d - q) ≤ (n * 2 ^ d) * 2 ^ (q - d) := by
    rcases Nat.le_total q d with hc | hc
    · rw [show q - d = 0 by omega, Nat.pow_zero, Nat.mul_one]
      have : n * 2 ^ d = n * 2 ^ q * 2 ^ (d - q) := by rw [Nat.mul_assoc, ← Nat.pow_add]; congr 2; omega
      rw [this]
      exact Nat.mul_le_mul_right _ h
    · rw [show d - q = 0 by omega, Nat.pow_zero, Nat.mul_one, Nat.mul_assoc, ← Nat.pow_add, show d + (q - d) = q by omega]
      exact h
  refine ⟨_, rfl, cut_even _ _ _ hsplit, ?_, ?_, ?_⟩
  · intro e
    have : mag * 2 ^ (d - q) = (n * 2 ^ d) * 2 ^ (q - d) := by
      rw [e]
      rw [Nat.mul_assoc, Nat.mul_assoc, ← Nat.pow_add, ← Nat.pow_add]
      congr 2
      omega
    rw [this]
    exact cut_even_exact _ _
  · have h53 : (9007199254740992 : Nat) = 2 ^ 53 := by decide
    rw [h53]
    refine cut_even _ _ _ ?_
    have h1 : mag ≤ 2 ^ (L + 1) := Nat.le_of_lt hhi
    refine Nat.le_trans (Nat.mul_le_mul_right _ h1) ?_
    rw [← Nat.pow_add, ← Nat.pow_add]
    exact Nat.pow_le_pow_right (by decide) (by omega)
  · intro hlt
    rcases Nat.lt_or_ge (q + 52 - L) 1074 with hc | hc
    · exfalso
      have hde : d = q + 52 - L := by omega
      have h52 : (4503599627370496 : Nat) = 2 ^ 52 := by decide
      rw [h52] at hlt
      refine absurd hlt (Nat.not_lt.2 ?_)
      unfold Toward.cut
      refine Nat.le_trans ?_ (Nat.le_add_right _ _)
      rw [Nat.one_shiftLeft]
      rw [Nat.le_div_iff_mul_le (Nat.two_pow_pos _)]
      refine Nat.le_trans ?_ (Nat.mul_le_mul_right _ hlo)
      rw [← Nat.pow_add, ← Nat.pow_add]
      exact Nat.pow_le_pow_right (by decide) (by omega)
    · omega
/-- The word of what is kept. -/
theorem nearest_word (mag q L d K : Nat) (hm : mag ≠ 0) (hLe : mag.log2 = L) (hL : L < 31 + q) (hd : min (q + 52 - L) 1074 = d) (hK : Toward.even.cut false (mag * 2 ^ (d - q)) (q - d) = K) (hb : K ≤ 9007199254740992) :
    double.nearest false mag (-(q : Int)) = (1074 - d) * 4503599627370496 + K := by
  have hlast : max (-(q : Int) + L - (double.fractionBits : Nat)) (-1074) = -(d : Int) := by
    show max (-(q : Int) + L - 52) (-1074) = -(d : Int)
    omega
  have s1 : (-(q : Int) - -(d : Int)).toNat = d - q := by omega
  have s2 : (-(d : Int) - -(q : Int)).toNat = q - d := by omega
  have s3 : (-(d : Int) - -1074).toNat = 1074 - d := by omega
  have hr : (1074 - d) * 4503599627370496 + K ≤ 9218868437227405312 := by omega
  generalize hR : (1074 - d) * 4503599627370496 + K = R at hr
  unfold Format.nearest
  rw [if_neg hm, leastPlace_double, binade_double, infRung_double, hLe]
  simp only [hlast, s1, s2, s3, Nat.shiftLeft_eq, hK, hR]
  rw [Nat.min_eq_left hr]
  rfl
/-- The nearest word to a number that is not above n: what it reads as is not above n either; exact if the number is n. -/
theorem read_nearest (mag q n : Nat) (hm : mag ≠ 0) (hn : n < 2147483648) (h : mag ≤ n * 2 ^ q) :
    ∃ m' d', double.read (double.nearest false mag (-(q : Int))) = .number false m' (-(d' : Nat)) ∧ m' ≤ n * 2 ^ d' ∧ (mag = n * 2 ^ q → m' = n * 2 ^ d') := by
  have hL : mag.log2 < 31 + q := by
    rw [Nat.log2_lt hm, Nat.pow_add]
    have hq : 0 < 2 ^ q := Nat.two_pow_pos q
    have : n * 2 ^ q < 2 ^ 31 * 2 ^ q := Nat.mul_lt_mul_of_pos_right (by omega) hq
    omega
  obtain ⟨d, hd⟩ : ∃ d, min (q + 52 - mag.log2) 1074 = d := ⟨_, rfl⟩
  obtain ⟨K, k1, k2, k3, k4, k5⟩ := kept_any mag q n mag.log2 d hL (Nat.log2_self_le hm) Nat.lt_log2_self hd h
  rw [nearest_word mag q mag.log2 d K hm rfl hL hd k1 k4]
  obtain ⟨m', d', e1, e2⟩ := read_rung d K (by omega) (by omega) k4 k5
  have hp : 0 < 2 ^ d := Nat.two_pow_pos d
  refine ⟨m', d', e1, ?_, ?_⟩
  · refine Nat.le_of_mul_le_mul_right (c := 2 ^ d) ?_ hp
    rw [e2]
    refine Nat.le_trans (Nat.mul_le_mul_right _ k2) ?_
    rw [Nat.mul_assoc, Nat.mul_assoc, Nat.mul_comm (2 ^ d) (2 ^ d')]
    exact Nat.le_refl _
  · intro e
    refine Nat.eq_of_mul_eq_mul_right hp ?_
    rw [e2, k3 e, Nat.mul_assoc, Nat.mul_assoc, Nat.mul_comm (2 ^ d) (2 ^ d')]

theorem nearest_zero (neg : Bool) (p : Int) : double.nearest neg 0 p = double.word neg 0 := by unfold Format.nearest; rw [if_pos rfl]
theorem read_zero : double.read 0 = .number false 0 (-(1074 : Nat)) := by decide
theorem one_word : double.read 4607182418800017408 = .number false 4503599627370496 (-(52 : Nat)) := by decide

/-- float64(n)'s reading. -/
theorem read_ofInt (n : Int) (h0 : 0 ≤ n) (h1 : n ≤ 2147483647) : ∃ m d, double.read (floatOfInt .f64 n) = .number false m (-(d : Nat)) ∧ m = n.toNat * 2 ^ d := by
  unfold floatOfInt FloatKind.nearest FloatKind.encode
  show ∃ m d, double.read (double.nearest (decide (n < 0)) n.natAbs 0) = _ ∧ _
  have e : decide (n < 0) = false := by simp; omega
  rw [e]
  by_cases hz : n = 0
  · subst hz
    obtain ⟨d, hd⟩ : ∃ d : Nat, d = 1074 := ⟨_, rfl⟩
    refine ⟨0, d, ?_, by simp⟩
    rw [hd]
    show double.read (double.nearest false 0 0) = _
    rw [nearest_zero]
    exact read_zero
  · obtain ⟨m', d', e1, _, e3⟩ := read_nearest n.natAbs 0 n.natAbs (by omega) (by omega) (by simp)
    refine ⟨m', d', e1, ?_⟩
    rw [e3 (by simp)]
    congr 1
    omega

def oneB : Nat := 4607182418800017408
/-- Clean's answer: bits. -/
def cleanB (x : Nat) : Nat := if double.order x oneB == some .gt then oneB else if double.order x 0 == some .gt then x else 0

theorem signed_pos (m u : Nat) : signed false m u = ((m * 2 ^ u : Nat) : Int) := by unfold signed; simp [Nat.shiftLeft_eq]
theorem gt_zero {x : Nat} (h : (double.order x 0 == some .gt) = true) (h2 : ¬ (double.order x oneB == some .gt) = true) : ∃ m d, double.read x = .number false m (-(d : Nat)) ∧ m ≤ 2 ^ d := by
  unfold Format.order at h h2
  rw [read_zero] at h
  unfold oneB at h2
  rw [one_word] at h2
  cases hx : double.read x with
  | nan s t => rw [hx] at h; simp [Datum.order] at h
  | infinity s =>
    rw [hx] at h h2
    cases s
    · simp [Datum.order] at h2
    · simp [Datum.order] at h
  | number s m j =>
    rw [hx] at h h2
    simp only [Datum.order, beq_iff_eq, Option.some.injEq] at h h2
    have hz : signed false 0 ((-(1074 : Nat) : Int) - min j (-(1074 : Nat))).toNat = 0 := by rw [signed_pos]; simp
    rw [hz] at h
    rw [Int.compare_eq_gt] at h
    rw [Int.compare_eq_gt] at h2
    have hs : s = false := by
      cases s
      · rfl
      · have hneg : signed true m (j - min j (-(1074 : Nat) : Int)).toNat ≤ 0 := by
          unfold signed
          rw [if_pos rfl]
          generalize m <<< (j - min j (-(1074 : Nat) : Int)).toNat = z
          omega
        exact absurd h (Int.not_lt.2 hneg)
    subst hs
    rw [signed_pos] at h
    rw [signed_pos, signed_pos] at h2
    have hm : m ≠ 0 := by intro e; subst e; simp at h
    have h2' : m * 2 ^ (j - min j (-(52 : Nat) : Int)).toNat ≤ 4503599627370496 * 2 ^ ((-(52 : Nat) : Int) - min j (-(52 : Nat) : Int)).toNat := by omega
    rcases Int.le_total j (-52) with hj | hj
    · have e1 : min j (-(52 : Nat) : Int) = j := by omega
      rw [e1] at h2'
      obtain ⟨d, rfl⟩ : ∃ d : Nat, j = -(d : Int) := ⟨(-j).toNat, by omega⟩
      refine ⟨m, d, rfl, ?_⟩
      have e2 : (-(d : Int) - -(d : Int)).toNat = 0 := by omega
      have e3 : (-(52 : Nat) - -(d : Int) : Int).toNat = d - 52 := by omega
      rw [e2, e3, Nat.pow_zero, Nat.mul_one] at h2'
      have : 2 ^ d = 4503599627370496 * 2 ^ (d - 52) := by
        rw [show (4503599627370496 : Nat) = 2 ^ 52 by decide, ← Nat.pow_add]
        congr 1
        omega
      omega
    · have e1 : min j (-(52 : Nat) : Int) = -52 := by omega
      rw [e1] at h2'
      have e3 : ((-(52 : Nat) : Int) - -52).toNat = 0 := by omega
      rw [e3, Nat.pow_zero, Nat.mul_one] at h2'
      rcases Int.le_total j 0 with hj0 | hj0
      · obtain ⟨d, rfl⟩ : ∃ d : Nat, j = -(d : Int) := ⟨(-j).toNat, by omega⟩
        refine ⟨m, d, rfl, ?_⟩
        have e4 : (-(d : Int) - -52).toNat = 52 - d := by omega
        rw [e4] at h2'
        have : (4503599627370496 : Nat) = 2 ^ d * 2 ^ (52 - d) := by
          rw [← Nat.pow_add, show d + (52 - d) = 52 by omega]
        rw [this] at h2'
        exact Nat.le_of_mul_le_mul_right h2' (Nat.two_pow_pos _)
      · exfalso
        have : 2 ^ 52 * 2 ^ 0 ≤ 1 * 2 ^ (j - -52).toNat := by
          rw [← Nat.pow_add, Nat.one_mul]; exact Nat.pow_le_pow_right (by decide) (by omega)
        by_cases hj1 : j = 0
        · subst hj1
          have hq : m * 4503599627370496 ≤ 4503599627370496 := by
            have : ((0 : Int) - -52).toNat = 52 := by decide
            rw [this] at h2'
            simpa using h2'
          have hm1 : m = 1 := by omega
          subst hm1
          -- a one whose place is 0: no word of the format reads so
          unfold Format.read at hx
          rw [signWeight_double, binade_double, infRung_double, leastPlace_double] at hx
          dsimp only at hx
          split at hx
          · injection hx with _ _ h3; omega
          · split at hx
            · injection hx with _ h3 _; omega
            · split at hx <;> cases hx
        · have h3 : 2 ^ 53 ≤ 2 ^ (j - -52).toNat := Nat.pow_le_pow_right (by decide) (by omega)
          have h4 : 1 * 2 ^ (j - -52).toNat ≤ m * 2 ^ (j - -52).toNat := Nat.mul_le_mul_right _ (by omega)
          have h5 : (2 : Nat) ^ 53 = 9007199254740992 := by decide
          omega

theorem clean_read (x : Nat) : ∃ m d, double.read (cleanB x) = .number false m (-(d : Nat)) ∧ m ≤ 2 ^ d ∧ (cleanB x = oneB → m = 2 ^ d) ∧ (cleanB x = 0 → m = 0) := by
  have hone : ∃ m d, double.read oneB = .number false m (-(d : Nat)) ∧ m ≤ 2 ^ d ∧ (oneB = oneB → m = 2 ^ d) ∧ (oneB = 0 → m = 0) := ⟨4503599627370496, 52, one_word, by decide, fun _ => by decide, fun h => absurd h (by decide)⟩
  have hzero : ∃ m d, double.read 0 = .number false m (-(d : Nat)) ∧ m ≤ 2 ^ d ∧ (0 = oneB → m = 2 ^ d) ∧ (0 = 0 → m = 0) := ⟨0, 1074, read_zero, Nat.zero_le _, ⟨fun h => by (exact absurd h (by decide)), fun _ => rfl⟩⟩
  unfold cleanB
  by_cases h1 : (double.order x oneB == some .gt) = true
  · rw [if_pos h1]; exact hone
  · rw [if_neg h1]
    by_cases h2 : (double.order x 0 == some .gt) = true
    · rw [if_pos h2]
      by_cases e1 : x = oneB
      · subst e1; exact hone
      · by_cases e0 : x = 0
        · subst e0; exact hzero
        · obtain ⟨m, d, a, b⟩ := gt_zero h2 h1
          exact ⟨m, d, a, b, fun h => absurd h e1, fun h => absurd h e0⟩
    · rw [if_neg h2]; exact hzero

theorem trunc_le (m d n : Nat) (h : m ≤ n * 2 ^ d) (hn : n ≤ 2147483647) (r : Nat) (hr : double.read r = .number false m (-(d : Nat))) : ∃ k : Int, floatToIntVal .f64 r .i64 = some k ∧ 0 ≤ k ∧ k ≤ n ∧ (m = n * 2 ^ d → k = n) := by
  have hk : (double.read r).toInt .zero = some ((m / 2 ^ d : Nat) : Int) := by
    rw [hr]
    unfold Datum.toInt Datum.integral
    have e1 : (-(d : Int)).toNat = 0 := by omega
    have e2 : (- -(d : Int)).toNat = d := by omega
    simp only [e1, e2, Nat.shiftLeft_zero, cut_zero_nat]
    simp [signed]
  have hle : m / 2 ^ d ≤ n := by
    have := Nat.div_le_div_right (c := 2 ^ d) h
    rwa [Nat.mul_div_cancel _ (Nat.two_pow_pos d)] at this
  refine ⟨((m / 2 ^ d : Nat) : Int), ?_, Int.natCast_nonneg _, by omega, fun e => by rw [e, Nat.mul_div_cancel _ (Nat.two_pow_pos d)]⟩
  unfold floatToIntVal FloatKind.decode
  show (match (double.read r).toInt .zero with | some n => _ | none => _) = _
  rw [hk]
  dsimp only
  have i1 : IntKind.i64.min = -9223372036854775808 := by decide
  have i2 : IntKind.i64.max = 9223372036854775807 := by decide
  have a1 : IntKind.i64.min ≤ ((m / 2 ^ d : Nat) : Int) := by
    generalize m / 2 ^ d = z at *
    omega
  have a2 : ((m / 2 ^ d : Nat) : Int) ≤ IntKind.i64.max := by
    generalize m / 2 ^ d = z at *
    omega
  rw [if_pos ⟨a1, a2⟩]

/-- A share: what 'int(float64(n) * Clean(x))' is, for n from 0 to MaxInt. -/
theorem share_any (n : Int) (x : Nat) (h0 : 0 ≤ n) (h1 : n ≤ 2147483647) : ∃ (r : Nat) (k : Int), floatBits .mul .f64 (floatOfInt .f64 n) (cleanB x) = some r ∧ floatToIntVal .f64 r .i64 = some k ∧ 0 ≤ k ∧ k ≤ n ∧ (cleanB x = oneB → k = n) ∧ (cleanB x = 0 → k = 0) := by
  obtain ⟨m1, d1, e1, f1⟩ := read_ofInt n h0 h1
  obtain ⟨m2, d2, e2, f2, g2, z2⟩ := clean_read x
  have hb : floatBits .mul .f64 (floatOfInt .f64 n) (cleanB x) = some (double.write (.number false (m1 * m2) (-((d1 + d2 : Nat) : Int)))) := by
    show double.mul (floatOfInt .f64 n) (cleanB x) = _
    unfold Format.mul
    rw [e1, e2]
    simp only [Datum.product, Option.map_some, Bool.false_xor]
    congr 3
    omega
  refine ⟨double.write (.number false (m1 * m2) (-((d1 + d2 : Nat) : Int))), ?_⟩
  have hle : m1 * m2 ≤ n.toNat * 2 ^ (d1 + d2) := by
    rw [f1, Nat.pow_add, Nat.mul_assoc]
    exact Nat.mul_le_mul_left _ (Nat.mul_le_mul_left _ f2)
  by_cases hz : m1 * m2 = 0
  · obtain ⟨k, k1, k2, k3, k4⟩ := trunc_le 0 1074 0 (Nat.zero_le _) (by omega) 0 read_zero
    have hk0 : k = 0 := by omega
    subst hk0
    have hw : double.write (.number false (m1 * m2) (-((d1 + d2 : Nat) : Int))) = 0 := by
      rw [hz]
      show double.nearest false 0 _ = 0
      rw [nearest_zero]
      rfl
    rw [hw]
    rw [hw] at hb
    refine ⟨0, hb, k1, by omega, h0, fun e => ?_, fun _ => rfl⟩
    have hp2 : 0 < 2 ^ d2 := Nat.two_pow_pos d2
    have hp1 : 0 < 2 ^ d1 := Nat.two_pow_pos d1
    rw [g2 e, f1] at hz
    rcases Nat.mul_eq_zero.1 hz with h | h
    · rcases Nat.mul_eq_zero.1 h with h | h
      · omega
      · omega
    · omega
  · obtain ⟨m', d', r1, r2, r3⟩ := read_nearest (m1 * m2) (d1 + d2) n.toNat hz (by omega) hle
    obtain ⟨k, k1, k2, k3, k4⟩ := trunc_le m' d' n.toNat r2 (by omega) _ r1
    refine ⟨k, hb, k1, k2, by omega, fun e => ?_, fun e => ?_⟩
    · have := k4 (r3 (by rw [f1, g2 e, Nat.pow_add, Nat.mul_assoc]))
      omega
    · exfalso; rw [z2 e] at hz; exact hz (Nat.mul_zero _)

def shareR (n : Int) (x : Nat) : Nat := (floatBits .mul .f64 (floatOfInt .f64 n) (cleanB x)).getD 0
def shareI (n : Int) (x : Nat) : Int := (floatToIntVal .f64 (shareR n x) .i64).getD 0
theorem share_spec (n : Int) (x : Nat) (h0 : 0 ≤ n) (h1 : n ≤ 2147483647) : floatBits .mul .f64 (floatOfInt .f64 n) (cleanB x) = some (shareR n x) ∧ floatToIntVal .f64 (shareR n x) .i64 = some (shareI n x) ∧ 0 ≤ shareI n x ∧ shareI n x ≤ n ∧ (cleanB x = oneB → shareI n x = n) ∧ (cleanB x = 0 → shareI n x = 0) := by
  obtain ⟨r, k, e1, e2, e3, e4, e5, e6⟩ := share_any n x h0 h1
  have er : shareR n x = r := by unfold shareR; rw [e1]; rfl
  have ek : shareI n x = k := by unfold shareI; rw [er, e2]; rfl
  rw [er, ek]
  exact ⟨e1, e2, e3, e4, e5, e6⟩

end Go.Proofs.Ytdcdckjdloddiaa
