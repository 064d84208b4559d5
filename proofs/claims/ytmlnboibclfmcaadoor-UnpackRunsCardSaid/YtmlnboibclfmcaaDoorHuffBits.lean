/-
  Huffman codes as rows of bits: what is encoded is decoded, and the other way round.
-/
import Derived.Test.YtmlnboibclfmcaaDoorHuffEnc
import Derived.Test.YtmlnboibclfmcaaDoorHuffDec
namespace Go.Proofs.YtmlnboibclfmcaaDoor
open Go.RowKit

/-- The lowest n bits of a number, the highest first. -/
def low (c : Int) : Nat → List Int
  | 0 => []
  | n + 1 => low (c / 2) n ++ [c % 2]
def byteBits (c : UInt8) : List Int := low (c.toNat : Int) 8
def BB (l : List UInt8) : List Int := l.flatMap byteBits
def ones (n : Nat) : List Int := List.replicate n 1
def symBits (x : UInt8) : List Int := low (codeF x.toNat) (Hp.lensL.getD x.toNat 0)
def encBits (l : List UInt8) : List Int := l.flatMap symBits
theorem low_len (c : Int) (n : Nat) : (low c n).length = n := by
  induction n generalizing c with
  | zero => rfl
  | succ n ih => simp [low, ih]
theorem low_mod (c : Int) (n : Nat) (m : Int) (h : ∃ k, m = 2 ^ n * k) : low (c + m) n = low c n := by
  induction n generalizing c m with
  | zero => rfl
  | succ n ih =>
    obtain ⟨k, rfl⟩ := h
    have e : (2 : Int) ^ (n + 1) * k = 2 * (2 ^ n * k) := by rw [Int.pow_succ, Int.mul_comm (2 ^ n) 2, Int.mul_assoc]
    simp only [low]
    rw [e, show (c + 2 * (2 ^ n * k)) / 2 = c / 2 + 2 ^ n * k by omega, ih _ _ ⟨k, rfl⟩, show (c + 2 * (2 ^ n * k)) % 2 = c % 2 by omega]
theorem low_cat (c d : Int) (a b : Nat) (h0 : 0 ≤ d) (h1 : d < 2 ^ b) : low (c * 2 ^ b + d) (a + b) = low c a ++ low d b := by
  induction b generalizing d with
  | zero =>
    have : d = 0 := by simp at h1; omega
    subst this
    simp [low]
  | succ b ih =>
    have e : c * 2 ^ (b + 1) = 2 * (c * 2 ^ b) := by rw [Int.pow_succ, Int.mul_comm (2 ^ b) 2, ← Int.mul_assoc, Int.mul_comm c 2, Int.mul_assoc]
    have hp : (2 : Int) ^ (b + 1) = 2 * 2 ^ b := by rw [Int.pow_succ, Int.mul_comm]
    show low ((c * 2 ^ (b + 1) + d) / 2) (a + b) ++ [(c * 2 ^ (b + 1) + d) % 2] = _
    rw [e, show (2 * (c * 2 ^ b) + d) / 2 = c * 2 ^ b + d / 2 by omega, ih (d / 2) (by omega) (by omega), show (2 * (c * 2 ^ b) + d) % 2 = d % 2 by omega]
    simp [low]

/-! ### the run over bits -/
def runL (bs : List Int) (st : Option (List UInt8 × Int × Nat)) : Option (List UInt8 × Int × Nat) := bs.foldl (fun o x => o.bind fun s => dstep s x) st
theorem runL_append (a b : List Int) (st : Option (List UInt8 × Int × Nat)) : runL (a ++ b) st = runL b (runL a st) := by
  unfold runL
  rw [List.foldl_append]
theorem runL_none (a : List Int) : runL a none = none := by
  induction a with
  | nil => rfl
  | cons x a ih => exact ih
theorem drun_range (l : List UInt8) (k : Nat) : drun l k = runL ((List.range k).map (bitL l)) (some ([], 0, 0)) := by
  induction k with
  | zero => rfl
  | succ k ih =>
    rw [List.range_succ, List.map_append, runL_append, ← ih]
    rfl
theorem low_get (c : Int) (n j : Nat) (h : j < n) : (low c n)[j]? = some (c / 2 ^ (n - 1 - j) % 2) := by
  induction n generalizing c with
  | zero => omega
  | succ n ih =>
    simp only [low]
    by_cases e : j = n
    · subst e
      rw [List.getElem?_append_right (by rw [low_len]; exact Nat.le_refl _), low_len]
      simp
    · rw [List.getElem?_append_left (by rw [low_len]; omega), ih _ (by omega)]
      have hp : (2 : Int) ^ (n + 1 - 1 - j) = 2 * 2 ^ (n - 1 - j) := by
        rw [show n + 1 - 1 - j = (n - 1 - j) + 1 by omega, Int.pow_succ, Int.mul_comm]
      rw [hp, Int.ediv_ediv_of_nonneg (by decide)]
theorem BB_get (l : List UInt8) (i : Nat) (h : i < 8 * l.length) : (BB l)[i]? = some (bitL l i) := by
  induction l generalizing i with
  | nil => simp at h
  | cons c r ih =>
    have e : BB (c :: r) = byteBits c ++ BB r := by simp [BB]
    rw [e]
    have hl : (byteBits c).length = 8 := low_len _ _
    by_cases hi : i < 8
    · rw [List.getElem?_append_left (by omega)]
      unfold byteBits
      rw [low_get _ _ _ hi]
      unfold bitL
      rw [show i / 8 = 0 by omega, show i % 8 = i by omega]
      simp only [List.getD, List.getElem?_cons_zero, Option.getD_some]
      rw [show 8 - 1 - i = 7 - i by omega]
      norm_cast
    · rw [List.getElem?_append_right (by omega), hl, ih (i - 8) (by simp only [List.length_cons] at h; omega)]
      unfold bitL
      rw [show i / 8 = (i - 8) / 8 + 1 by omega, show i % 8 = (i - 8) % 8 by omega]
      simp [List.getD]
theorem BB_len (l : List UInt8) : (BB l).length = 8 * l.length := by
  induction l with
  | nil => rfl
  | cons c r ih =>
    have e : BB (c :: r) = byteBits c ++ BB r := by simp [BB]
    rw [e, List.length_append, ih, show (byteBits c).length = 8 from low_len _ _, List.length_cons]
    omega
theorem BB_range (l : List UInt8) : (List.range (8 * l.length)).map (bitL l) = BB l := by
  apply List.ext_getElem?
  intro i
  by_cases h : i < 8 * l.length
  · rw [BB_get l i h, List.getElem?_map, List.getElem?_range h]
    rfl
  · rw [List.getElem?_eq_none (by simp; omega), List.getElem?_eq_none (by rw [BB_len]; omega)]
theorem drun_BB (l : List UInt8) : drun l (8 * l.length) = runL (BB l) (some ([], 0, 0)) := by
  rw [drun_range, BB_range]

end Go.Proofs.YtmlnboibclfmcaaDoor
