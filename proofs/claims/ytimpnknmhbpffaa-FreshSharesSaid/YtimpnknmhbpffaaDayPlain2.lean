/-
  The calendar of chapter 17 as plain functions: lengths of months and years, a whole date read.
-/
import Derived.Test.YtimpnknmhbpffaaDayPlain
namespace Go.Proofs.Ytimpnknmhbpffaa.Dp

def lenF (y m : Int) : Int := if m = 1 then (if y % 4 = 0 then 29 else 28) else if m = 3 ∨ m = 5 ∨ m = 8 ∨ m = 10 then 30 else 31
def yearF (y : Int) : Int := if y % 4 = 0 then 366 else 365
def sumY : Nat → Int
  | 0 => 0
  | k + 1 => sumY k + yearF (1970 + (k : Int))
def sumM (y : Int) : Nat → Int
  | 0 => 0
  | k + 1 => sumM y k + lenF y (k : Int)
theorem lenF_bd (y m : Int) : 28 ≤ lenF y m ∧ lenF y m ≤ 31 := by
  unfold lenF
  split
  · split <;> omega
  · split <;> omega
theorem yearF_bd (y : Int) : 365 ≤ yearF y ∧ yearF y ≤ 366 := by
  unfold yearF
  split <;> omega
theorem sumY_bd (k : Nat) : 365 * (k : Int) ≤ sumY k ∧ sumY k ≤ 366 * (k : Int) := by
  induction k with
  | zero => simp [sumY]
  | succ k ih => have := yearF_bd (1970 + (k : Int)); simp only [sumY]; omega
theorem sumM_bd (y : Int) (k : Nat) : 28 * (k : Int) ≤ sumM y k ∧ sumM y k ≤ 31 * (k : Int) := by
  induction k with
  | zero => simp [sumM]
  | succ k ih => have := lenF_bd y (k : Int); simp only [sumM]; omega

def weekL : List UInt8 := [84, 104, 117, 70, 114, 105, 83, 97, 116, 83, 117, 110, 77, 111, 110, 84, 117, 101, 87, 101, 100]
def monthsL : List UInt8 := [74, 97, 110, 70, 101, 98, 77, 97, 114, 65, 112, 114, 77, 97, 121, 74, 117, 110, 74, 117, 108, 65, 117, 103, 83, 101, 112, 79, 99, 116, 78, 111, 118, 68, 101, 99]

/-- What a text that is left reads as a date: the place in the week, day, month, year, hour, minute, second, and what is left. -/
def parse (l : List UInt8) : (Int × Int × Int × Int × Int × Int × Int) × Option (List UInt8) :=
  let a := pName 7 weekL (some l)
  let b := pNum 2 1 31 (pSign [44, 32] a.2)
  let c := pName 12 monthsL (pSign [32] b.2)
  let d := pNum 4 1970 2037 (pSign [32] c.2)
  let e := pNum 2 0 23 (pSign [32] d.2)
  let f := pNum 2 0 59 (pSign [58] e.2)
  let g := pNum 2 0 59 (pSign [58] f.2)
  ((a.1, b.1, c.1, d.1, e.1, f.1, g.1), pSign [32, 71, 77, 84] g.2)
def dayOf (d m y : Int) : Int := d - 1 + sumY (y - 1970).toNat + sumM y m.toNat
def tell (x : Int × Int × Int × Int × Int × Int × Int) : Int × Bool :=
  match x with
  | (w, d, m, y, h, mi, s) =>
    if lenF y m < d then (0, false) else if (dayOf d m y).tmod 7 = w then (dayOf d m y * 86400 + h * 60 * 60 + mi * 60 + s, true) else (0, false)
def fin (x : Int × Int × Int × Int × Int × Int × Int) : Option (List UInt8) → Int × Bool
  | some [] => tell x
  | _ => (0, false)
def readF (l : List UInt8) : Int × Bool := fin (parse l).1 (parse l).2

theorem pNum_bd (k : Nat) (lo hi : Int) (st : Option (List UInt8)) (h0 : 0 ≤ lo) (h1 : lo ≤ hi) : 0 ≤ (pNum k lo hi st).1 ∧ (pNum k lo hi st).1 ≤ hi := by
  cases st with
  | none => simp [pNum]; omega
  | some l =>
    simp only [pNum]
    split
    · rename_i h
      rw [numOk_iff] at h
      exact ⟨by show 0 ≤ val _; omega, h.2.2.2⟩
    · exact ⟨Int.le_refl _, by show (0 : Int) ≤ hi; omega⟩
theorem pName_bd (n : Nat) (all : List UInt8) (st : Option (List UInt8)) (hn : 0 < n) : 0 ≤ (pName n all st).1 ∧ (pName n all st).1 < n := by
  cases st with
  | none => simp [pName]; omega
  | some l =>
    simp only [pName]
    cases hf : find n all l with
    | none => exact ⟨Int.le_refl _, by show (0 : Int) < n; omega⟩
    | some j =>
      unfold find at hf
      have := List.mem_of_find?_eq_some hf
      rw [List.mem_range] at this
      exact ⟨by show (0 : Int) ≤ j; omega, by show (j : Int) < n; omega⟩

/-- Which year, and which day of it; k: years behind 1970. -/
def goY : Nat → Nat → Int → Nat × Int
  | 0, k, d => (k, d)
  | f + 1, k, d => if d < yearF (1970 + (k : Int)) then (k, d) else goY f (k + 1) (d - yearF (1970 + (k : Int)))
def goM (y : Int) : Nat → Nat → Int → Nat × Int
  | 0, j, d => (j, d)
  | f + 1, j, d => if d < lenF y (j : Int) then (j, d) else goM y f (j + 1) (d - lenF y (j : Int))
theorem goY_stop {f k : Nat} {d : Int} (h : d < yearF (1970 + (k : Int))) : goY f k d = (k, d) := by
  cases f with
  | zero => rfl
  | succ f => simp only [goY]; rw [if_pos h]
theorem goY_next {f k : Nat} {d : Int} (h : yearF (1970 + (k : Int)) ≤ d) : goY (f + 1) k d = goY f (k + 1) (d - yearF (1970 + (k : Int))) := by
  simp only [goY]; rw [if_neg (Int.not_lt.2 h)]
theorem goM_stop {y : Int} {f k : Nat} {d : Int} (h : d < lenF y (k : Int)) : goM y f k d = (k, d) := by
  cases f with
  | zero => rfl
  | succ f => simp only [goM]; rw [if_pos h]
theorem goM_next {y : Int} {f k : Nat} {d : Int} (h : lenF y (k : Int) ≤ d) : goM y (f + 1) k d = goM y f (k + 1) (d - lenF y (k : Int)) := by
  simp only [goM]; rw [if_neg (Int.not_lt.2 h)]
theorem sumM_year (y : Int) : sumM y 12 = yearF y := by
  unfold yearF
  by_cases h : y % 4 = 0 <;> simp [sumM, lenF, h]
def clamp (n : Int) : Int := if n < 0 then 0 else if 2147483647 < n then 2147483647 else n
theorem clamp_bd (n : Int) : 0 ≤ clamp n ∧ clamp n ≤ 2147483647 := by
  unfold clamp
  split
  · omega
  · split <;> omega

end Go.Proofs.Ytimpnknmhbpffaa.Dp
