/-
  The dates of chapter 17 as plain functions on lists of bytes: what the program's reader computes, step by step; no program in sight.
-/
import Derived.Test.YtimpnknmhbpffaaBase
namespace Go.Proofs.Ytimpnknmhbpffaa.Dp

def isDig (c : UInt8) : Bool := decide (48 ≤ c.toNat) && decide (c.toNat ≤ 57)
def val (l : List UInt8) : Int := l.foldl (fun n c => 10 * n + ((c.toNat : Int) - 48)) 0
def pSign (p : List UInt8) : Option (List UInt8) → Option (List UInt8)
  | none => none
  | some l => if l.take p.length = p then some (l.drop p.length) else none
def numOk (k : Nat) (lo hi : Int) (l : List UInt8) : Bool := decide (k ≤ l.length) && ((l.take k).all isDig && (decide (lo ≤ val (l.take k)) && decide (val (l.take k) ≤ hi)))
theorem numOk_iff (k : Nat) (lo hi : Int) (l : List UInt8) : numOk k lo hi l = true ↔ k ≤ l.length ∧ (l.take k).all isDig = true ∧ lo ≤ val (l.take k) ∧ val (l.take k) ≤ hi := by
  unfold numOk
  rw [Bool.and_eq_true, Bool.and_eq_true, Bool.and_eq_true, decide_eq_true_eq, decide_eq_true_eq, decide_eq_true_eq]
def pNum (k : Nat) (lo hi : Int) : Option (List UInt8) → Int × Option (List UInt8)
  | none => (0, none)
  | some l => if numOk k lo hi l = true then (val (l.take k), some (l.drop k)) else (0, none)
def hit (all l : List UInt8) (j : Nat) : Bool := l.take 3 == (all.drop (3 * j)).take 3
def find (n : Nat) (all l : List UInt8) : Option Nat := (List.range n).find? (hit all l)
def pName (n : Nat) (all : List UInt8) : Option (List UInt8) → Int × Option (List UInt8)
  | none => (0, none)
  | some l => match find n all l with
    | some j => ((j : Int), some (l.drop 3))
    | none => (0, none)

theorem val_snoc (l : List UInt8) (c : UInt8) : val (l ++ [c]) = 10 * val l + ((c.toNat : Int) - 48) := by
  simp [val]
theorem all_snoc (l : List UInt8) (c : UInt8) : (l ++ [c]).all isDig = (l.all isDig && isDig c) := by simp
theorem take_snoc (l : List UInt8) (k : Nat) (h : k < l.length) : l.take (k + 1) = l.take k ++ [l[k]] := by
  rw [List.take_succ_eq_append_getElem h]
theorem val_nonneg (l : List UInt8) (h : l.all isDig = true) : 0 ≤ val l := by
  have key : ∀ (l : List UInt8) (n : Int), 0 ≤ n → l.all isDig = true → 0 ≤ l.foldl (fun n c => 10 * n + ((c.toNat : Int) - 48)) n := by
    intro l
    induction l with
    | nil => intro n h _; simpa using h
    | cons c l ih =>
      intro n hn hl
      simp only [List.all_cons, Bool.and_eq_true] at hl
      have hc := hl.1
      simp only [isDig, Bool.and_eq_true, decide_eq_true_eq] at hc
      exact ih (10 * n + ((c.toNat : Int) - 48)) (by omega) hl.2
  exact key l 0 (Int.le_refl _) h

theorem find_none {n : Nat} {all l : List UInt8} (h : ∀ j, j < n → hit all l j = false) : find n all l = none := by
  unfold find
  rw [List.find?_eq_none]
  intro j hj
  rw [h j (List.mem_range.1 hj)]
  simp
theorem find_some {n : Nat} {all l : List UInt8} (k : Nat) (hk : k < n) (h : ∀ j, j < k → hit all l j = false) (hh : hit all l k = true) : find n all l = some k := by
  unfold find
  rw [List.find?_range_eq_some]
  exact ⟨hh, List.mem_range.2 hk, fun j hj => by rw [h j hj]; rfl⟩

end Go.Proofs.Ytimpnknmhbpffaa.Dp
