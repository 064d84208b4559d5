/-
  Each symbol's bits are read as that symbol; the texts' bits as the texts.
-/
import Derived.Test.YtmlnboibclfmcaaDoorHuffBits
namespace Go.Proofs.YtmlnboibclfmcaaDoor
open Go.RowKit

def symOk (x : Nat) : Bool := decide (symF (codeF x) (Hp.lensL.getD x 0) = (x : Int)) && (decide (firstF (Hp.lensL.getD x 0) ≤ codeF x) && decide (codeF x < 2 ^ Hp.lensL.getD x 0))
theorem sym_ok : ∀ x, x < 257 → symOk x = true := by decide +kernel
theorem sym_self (x : Nat) (hx : x < 257) : symF (codeF x) (Hp.lensL.getD x 0) = (x : Int) ∧ firstF (Hp.lensL.getD x 0) ≤ codeF x ∧ codeF x < 2 ^ Hp.lensL.getD x 0 := by
  have := sym_ok x hx
  unfold symOk at this
  simpa only [Bool.and_eq_true, decide_eq_true_eq] using this
/-- What is above all codes of its length is no code. -/
theorem sym_above {c : Int} {n : Nat} (h : firstF n + count 257 n ≤ c) : symF c n = -1 := by
  unfold symF
  rw [if_pos (by omega)]
/-- The run over the bits of a number none of whose beginnings is a code. -/
theorem run_low (o : List UInt8) : ∀ (n : Nat) (c : Int), n ≤ 30 → 0 ≤ c → c < 2 ^ n → firstF n + count 257 n ≤ c → runL (low c n) (some (o, 0, 0)) = some (o, c, n)
  | 0, c, _, h0, h1, _ => by
    have : c = 0 := by simp at h1; omega
    subst this
    rfl
  | n + 1, c, hn, h0, h1, h2 => by
    have hf : firstF (n + 1) = 2 * (firstF n + count 257 n) := rfl
    have hb := count_bd 257 (n + 1)
    have hp : (2 : Int) ^ (n + 1) = 2 * 2 ^ n := by rw [Int.pow_succ, Int.mul_comm]
    simp only [low]
    rw [runL_append, run_low o n (c / 2) (by omega) (by omega) (by omega) (by omega)]
    show dstep (o, c / 2, n) (c % 2) = _
    unfold dstep
    simp only
    rw [show 2 * (c / 2) + c % 2 = c by omega, sym_above h2]
    rfl
theorem run_sym (o : List UInt8) (x : Nat) (hx : x < 256) : runL (low (codeF x) (Hp.lensL.getD x 0)) (some (o, 0, 0)) = some (o ++ [byteOf (x : Int)], 0, 0) := by
  obtain ⟨h1, h2, h3⟩ := sym_self x (by omega)
  have hl := Hp.lensL_bd x (by omega)
  have hc := code_bd x (by omega)
  obtain ⟨n, hn⟩ : ∃ n, Hp.lensL.getD x 0 = n + 1 := ⟨Hp.lensL.getD x 0 - 1, by omega⟩
  rw [hn] at h1 h2 h3 hl ⊢
  have hf : firstF (n + 1) = 2 * (firstF n + count 257 n) := rfl
  have hp : (2 : Int) ^ (n + 1) = 2 * 2 ^ n := by rw [Int.pow_succ, Int.mul_comm]
  simp only [low]
  rw [runL_append, run_low o n (codeF x / 2) (by omega) (by omega) (by omega) (by omega)]
  show dstep (o, codeF x / 2, n) (codeF x % 2) = _
  unfold dstep
  simp only
  rw [show 2 * (codeF x / 2) + codeF x % 2 = codeF x by omega, h1, if_neg (by omega), if_pos (by omega)]
theorem byteOf_self (x : UInt8) : byteOf ((x.toNat : Nat) : Int) = x := by
  apply UInt8.toNat_inj.1
  have := byteOf_toNat (n := (x.toNat : Int)) (by omega) (by have := x.toNat_lt; omega)
  omega
theorem run_enc (l o : List UInt8) : runL (encBits l) (some (o, 0, 0)) = some (o ++ l, 0, 0) := by
  induction l generalizing o with
  | nil => simp [encBits, runL]
  | cons x l ih =>
    have e : encBits (x :: l) = symBits x ++ encBits l := by simp [encBits]
    rw [e, runL_append]
    unfold symBits
    rw [run_sym o x.toNat x.toNat_lt, byteOf_self, ih]
    simp
theorem ones_ok : ∀ p, p < 8 → firstF p + count 257 p ≤ 2 ^ p - 1 := by decide +kernel
theorem low_ones : ∀ p, p < 8 → low (2 ^ p - 1) p = ones p := by decide +kernel
theorem run_ones (o : List UInt8) (p : Nat) (hp : p < 8) : runL (ones p) (some (o, 0, 0)) = some (o, 2 ^ p - 1, p) := by
  rw [← low_ones p hp]
  have hpos : (0 : Int) < 2 ^ p := Int.pow_pos (by decide)
  exact run_low o p _ (by omega) (by omega) (by omega) (ones_ok p hp)

end Go.Proofs.YtmlnboibclfmcaaDoor
