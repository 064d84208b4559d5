/-
  The dates of chapter 17 as plain functions on lists of bytes: what the program's reader computes, step by step; no program in sight. The calendar of chapter 17 as plain functions: lengths of months and years, a whole date read. The walks of package day's reader: what each of its three methods does with the text that is left. The walk of the reader's method name: the place of three letters among such.
-/
import Derived.Test.YtdcdckjdloddiaaBuf
namespace Go.Proofs.Ytdcdckjdloddiaa.Dp

def isDig (c : UInt8) : Bool := decide (48 ≤ c.toNat) && decide (c.toNat ≤ 57)
def val (l : List UInt8) : Int := l.foldl (fun n c => 10 * n + ((c.toNat : Int) - 48)) 0
def pSign (p : List UInt8) : Option (List UInt8) → Option (List UInt8)
  | none => none
  | some l => if l.take p.length = p then some (l.drop p.length) else none
def numOk (k : Nat) (lo hi : Int) (l : List UInt8) : Bool := decide (k ≤ l.length) && ((l.take k).all isDig && (decide (lo ≤ val (l.take k)) && decide (val (l.take k) ≤ hi)))
theorem numOk_iff (k : Nat) (lo hi : Int) (l : List UInt8) : numOk k lo hi l = true ↔ k ≤ l.length ∧ (l.take k).all isDig = true ∧ lo ≤ val (l.take k) ∧ val (l.take k) ≤ hi := by
  unfold numOk
  rw [Bool.and_eq_true, Bool.and_eq_true, Bool.and_eq_true, decide_eq_true_eq, decide_eq_true_eq, decide_eq_true_eq]
def pNum (k : Nat) (lo hi : Int) : Option (List UInt8) → Int × Option (List UInt8)
  | none => (0, none)
  | some l => if numOk k lo hi l = true then (val (l.take k), some (l.drop k)) else (0, none)
def hit (all l : List UInt8) (j : Nat) : Bool := l.take 3 == (all.drop (3 * j)).take 3
def find (n : Nat) (all l : List UInt8) : Option Nat := (List.range n).find? (hit all l)
def pName (n : Nat) (all : List UInt8) : Option (List UInt8) → Int × Option (List UInt8)
  | none => (0, none)
  | some l => match find n all l with
    | some j => ((j : Int), some (l.drop 3))
    | none => (0, none)

theorem val_snoc (l : List UInt8) (c : UInt8) : val (l ++ [c]) = 10 * val l + ((c.toNat : Int) - 48) := by
  simp [val]
theorem all_snoc (l : List UInt8) (c : UInt8) : (l ++ [c]).all isDig = (l.all isDig && isDig c) := by simp
theorem take_snoc (l : List UInt8) (k : Nat) (h : k < l.length) : l.take (k + 1) = l.take k ++ [l[k]] := by
  rw [List.take_succ_eq_append_getElem h]
theorem val_nonneg (l : List UInt8) (h : l.all isDig = true) : 0 ≤ val l := by
  have key : ∀ (l : List UInt8) (n : Int), 0 ≤ n → l.all isDig = true → 0 ≤ l.foldl (fun n c => 10 * n + ((c.toNat : Int) - 48)) n := by
    intro l
    induction l with
    | nil => intro n h _; simpa using h
    | cons c l ih =>
      intro n hn hl
      simp only [List.all_cons, Bool.and_eq_true] at hl
      have hc := hl.1
      simp only [isDig, Bool.and_eq_true, decide_eq_true_eq] at hc
      exact ih (10 * n + ((c.toNat : Int) - 48)) (by omega) hl.2
  exact key l 0 (Int.le_refl _) h

theorem find_none {n : Nat} {all l : List UInt8} (h : ∀ j, j < n → hit all l j = false) : find n all l = none := by
  unfold find
  rw [List.find?_eq_none]
  intro j hj
  rw [h j (List.mem_range.1 hj)]
  simp
theorem find_some {n : Nat} {all l : List UInt8} (k : Nat) (hk : k < n) (h : ∀ j, j < k → hit all l j = false) (hh : hit all l k = true) : find n all l = some k := by
  unfold find
  rw [List.find?_range_eq_some]
  exact ⟨hh, List.mem_range.2 hk, fun j hj => by rw [h j hj]; rfl⟩

end Go.Proofs.Ytdcdckjdloddiaa.Dp
namespace Go.Proofs.Ytdcdckjdloddiaa.Dp

def lenF (y m : Int) : Int := if m = 1 then (if y % 4 = 0 then 29 else 28) else if m = 3 ∨ m = 5 ∨ m = 8 ∨ m = 10 then 30 else 31
def yearF (y : Int) : Int := if y % 4 = 0 then 366 else 365
def sumY : Nat → Int
  | 0 => 0
  | k + 1 => sumY k + yearF (1970 + (k : Int))
def sumM (y : Int) : Nat → Int
  | 0 => 0
  | k + 1 => sumM y k + lenF y (k : Int)
theorem lenF_bd (y m : Int) : 28 ≤ lenF y m ∧ lenF y m ≤ 31 := by
  unfold lenF
  split
  · split <;> omega
  · split <;> omega
theorem yearF_bd (y : Int) : 365 ≤ yearF y ∧ yearF y ≤ 366 := by
  unfold yearF
  split <;> omega
theorem sumY_bd (k : Nat) : 365 * (k : Int) ≤ sumY k ∧ sumY k ≤ 366 * (k : Int) := by
  induction k with
  | zero => simp [sumY]
  | succ k ih => have := yearF_bd (1970 + (k : Int)); simp only [sumY]; omega
theorem sumM_bd (y : Int) (k : Nat) : 28 * (k : Int) ≤ sumM y k ∧ sumM y k ≤ 31 * (k : Int) := by
  induction k with
  | zero => simp [sumM]
  | succ k ih => have := lenF_bd y (k : Int); simp only [sumM]; omega

def weekL : List UInt8 := [84, 104, 117, 70, 114, 105, 83, 97, 116, 83, 117, 110, 77, 111, 110, 84, 117, 101, 87, 101, 100]
def monthsL : List UInt8 := [74, 97, 110, 70, 101, 98, 77, 97, 114, 65, 112, 114, 77, 97, 121, 74, 117, 110, 74, 117, 108, 65, 117, 103, 83, 101, 112, 79, 99, 116, 78, 111, 118, 68, 101, 99]

/-- What a text that is left reads as a date: the place in the week, day, month, year, hour, minute, second, and what is left. -/
def parse (l : List UInt8) : (Int × Int × Int × Int × Int × Int × Int) × Option (List UInt8) :=
  let a := pName 7 weekL (some l)
  let b := pNum 2 1 31 (pSign [44, 32] a.2)
  let c := pName 12 monthsL (pSign [32] b.2)
  let d := pNum 4 1970 2037 (pSign [32] c.2)
  let e := pNum 2 0 23 (pSign [32] d.2)
  let f := pNum 2 0 59 (pSign [58] e.2)
  let g := pNum 2 0 59 (pSign [58] f.2)
  ((a.1, b.1, c.1, d.1, e.1, f.1, g.1), pSign [32, 71, 77, 84] g.2)
def dayOf (d m y : Int) : Int := d - 1 + sumY (y - 1970).toNat + sumM y m.toNat
def tell (x : Int × Int × Int × Int × Int × Int × Int) : Int × Bool :=
  match x with
  | (w, d, m, y, h, mi, s) =>
    if lenF y m < d then (0, false) else if (dayOf d m y).tmod 7 = w then (dayOf d m y * 86400 + h * 60 * 60 + mi * 60 + s, true) else (0, false)
def fin (x : Int × Int × Int × Int × Int × Int × Int) : Option (List UInt8) → Int × Bool
  | some [] => tell x
  | _ => (0, false)
def readF (l : List UInt8) : Int × Bool := fin (parse l).1 (parse l).2

theorem pNum_bd (k : Nat) (lo hi : Int) (st : Option (List UInt8)) (h0 : 0 ≤ lo) (h1 : lo ≤ hi) : 0 ≤ (pNum k lo hi st).1 ∧ (pNum k lo hi st).1 ≤ hi := by
  cases st with
  | none => simp [pNum]; omega
  | some l =>
    simp only [pNum]
    split
    · rename_i h
      rw [numOk_iff] at h
      exact ⟨by show 0 ≤ val _; omega, h.2.2.2⟩
    · exact ⟨Int.le_refl _, by show (0 : Int) ≤ hi; omega⟩
theorem pName_bd (n : Nat) (all : List UInt8) (st : Option (List UInt8)) (hn : 0 < n) : 0 ≤ (pName n all st).1 ∧ (pName n all st).1 < n := by
  cases st with
  | none => simp [pName]; omega
  | some l =>
    simp only [pName]
    cases hf : find n all l with
    | none => exact ⟨Int.le_refl _, by show (0 : Int) < n; omega⟩
    | some j =>
      unfold find at hf
      have := List.mem_of_find?_eq_some hf
      rw [List.mem_range] at this
      exact ⟨by show (0 : Int) ≤ j; omega, by show (j : Int) < n; omega⟩

/-- Which year, and which day of it; k: years behind 1970. -/
def goY : Nat → Nat → Int → Nat × Int
  | 0, k, d => (k, d)
  | f + 1, k, d => if d < yearF (1970 + (k : Int)) then (k, d) else goY f (k + 1) (d - yearF (1970 + (k : Int)))
def goM (y : Int) : Nat → Nat → Int → Nat × Int
  | 0, j, d => (j, d)
  | f + 1, j, d => if d < lenF y (j : Int) then (j, d) else goM y f (j + 1) (d - lenF y (j : Int))
theorem goY_stop {f k : Nat} {d : Int} (h : d < yearF (1970 + (k : Int))) : goY f k d = (k, d) := by
  cases f with
  | zero => rfl
  | succ f => simp only [goY]; rw [if_pos h]
theorem goY_next {f k : Nat} {d : Int} (h : yearF (1970 + (k : Int)) ≤ d) : goY (f + 1) k d = goY f (k + 1) (d - yearF (1970 + (k : Int))) := by
  simp only [goY]; rw [if_neg (Int.not_lt.2 h)]
theorem goM_stop {y : Int} {f k : Nat} {d : Int} (h : d < lenF y (k : Int)) : goM y f k d = (k, d) := by
  cases f with
  | zero => rfl
  | succ f => simp only [goM]; rw [if_pos h]
theorem goM_next {y : Int} {f k : Nat} {d : Int} (h : lenF y (k : Int) ≤ d) : goM y (f + 1) k d = goM y f (k + 1) (d - lenF y (k : Int)) := by
  simp only [goM]; rw [if_neg (Int.not_lt.2 h)]
theorem sumM_year (y : Int) : sumM y 12 = yearF y := by
  unfold yearF
  by_cases h : y % 4 = 0 <;> simp [sumM, lenF, h]
def clamp (n : Int) : Int := if n < 0 then 0 else if 2147483647 < n then 2147483647 else n
theorem clamp_bd (n : Int) : 0 ≤ clamp n ∧ clamp n ≤ 2147483647 := by
  unfold clamp
  split
  · omega
  · split <;> omega

end Go.Proofs.Ytdcdckjdloddiaa.Dp
namespace Go.Proofs.Ytdcdckjdloddiaa
open Go.RowKit

/-- The reader at block b holds the text s and the flag ok. -/
structure Rd (w : World) (b : Nat) (s : ByteArray) (ok : Bool) : Prop where
  c0 : w.cell? ⟨b, 0, none⟩ = some (.string s)
  c1 : w.cell? ⟨b, 1, none⟩ = some (.bool ok)
  f0 : w.frozen? ⟨b, 0, none⟩ = false
  f1 : w.frozen? ⟨b, 1, none⟩ = false
  hb : b < w.heap.size
  hs : s.size ≤ 9223372036854775807
theorem Rd.set0 {w : World} {b : Nat} {s : ByteArray} {ok : Bool} (h : Rd w b s ok) (t : ByteArray) (ht : t.size ≤ 9223372036854775807) : Rd (w.setCell ⟨b, 0, none⟩ (.string t)) b t ok :=
  ⟨World.cell?_setCell_same _ _ _ h.c0, by rw [World.cell?_setCell_other _ _ _ _ (by simp)]; exact h.c1, by rw [World.frozen?_setCell]; exact h.f0, by rw [World.frozen?_setCell]; exact h.f1, by simpa [World.setCell] using h.hb, ht⟩
theorem Rd.set1 {w : World} {b : Nat} {s : ByteArray} {ok : Bool} (h : Rd w b s ok) (t : Bool) : Rd (w.setCell ⟨b, 1, none⟩ (.bool t)) b s t :=
  ⟨by rw [World.cell?_setCell_other _ _ _ _ (by simp)]; exact h.c0, World.cell?_setCell_same _ _ _ h.c1, by rw [World.frozen?_setCell]; exact h.f0, by rw [World.frozen?_setCell]; exact h.f1, by simpa [World.setCell] using h.hb, h.hs⟩
theorem Rd.drewN {w : World} {b : Nat} {s : ByteArray} {ok : Bool} (h : Rd w b s ok) (n : Nat) : Rd (w.drewN n) b s ok := ⟨h.c0, h.c1, h.f0, h.f1, h.hb, h.hs⟩
/-- The reader's state: what is left to read, where nothing was wrong. -/
def St (w : World) (b : Nat) (st : Option (List UInt8)) : Prop := ∃ s ok, Rd w b s ok ∧ st = if ok = true then some s.data.toList else none

set_option maxHeartbeats 400000 in
theorem d_sign_any (b : Nat) (p : ByteArray) (st : Option (List UInt8)) (w : World) (h : St w b st) (hp : p.size ≤ 1000):
    Calls Try.prog 69 #[.pointer (some ⟨b, 0, none⟩), .string p] w fun e w' => e = .returned (.tuple #[]) ∧ St w' b (Dp.pSign p.data.toList st) ∧ Below b w w' := by
  obtain ⟨s, ok, hR, rfl⟩ := h
  have c0 := hR.c0
  have c1 := hR.c1
  have f0 := hR.f0
  have f1 := hR.f1
  have hs := hR.hs
  cases ok
  · go_enter Try.func69, Try.ntmps69
    go_wp2
    go_end0
    exact ⟨rfl, ⟨_, _, hR.set1 _, rfl⟩, bset (Below.refl _ _) _ _ _ (Nat.le_refl _)⟩
  · by_cases hl : p.size ≤ s.size
    · cases he : ((s.extract 0 p.size).toList == p.toList)
      · go_enter Try.func69, Try.ntmps69
        go_wp2
        go_end0
        refine ⟨rfl, ⟨_, _, hR.set1 _, ?_⟩, bset (Below.refl _ _) _ _ _ (Nat.le_refl _)⟩
        have := bytes_ne_of he
        rw [extract_front] at this
        simp [Dp.pSign, this]
      · go_enter Try.func69, Try.ntmps69
        go_wp2
        go_end0
        refine ⟨rfl, ⟨_, _, (hR.set1 _).set0 _ (by simp; omega), ?_⟩, bset (bset (Below.refl _ _) _ _ _ (Nat.le_refl _)) _ _ _ (Nat.le_refl _)⟩
        have := bytes_eq_of he
        rw [extract_front] at this
        rw [extract_end]
        simp [Dp.pSign, this]
    · go_enter Try.func69, Try.ntmps69
      go_wp2
      go_end0
      refine ⟨rfl, ⟨_, _, hR.set1 _, ?_⟩, bset (Below.refl _ _) _ _ _ (Nat.le_refl _)⟩
      simp only [Dp.pSign]
      simp
      intro e
      have := congrArg List.length e
      simp at this
      omega

theorem num_bound (j : Nat) (hj : j ≤ 4) (n : Int) (h : n < 1000 ^ j) : n < 1000000000000 := by
  have : (1000 : Int) ^ j ≤ 1000 ^ 4 := by
    have : j = 0 ∨ j = 1 ∨ j = 2 ∨ j = 3 ∨ j = 4 := by omega
    rcases this with rfl | rfl | rfl | rfl | rfl <;> decide
  omega
theorem num_bound_next (j : Nat) (n c : Int) (h0 : 0 ≤ n) (h : n < 1000 ^ j) (hc : c < 256) : 10 * n + c < 1000 ^ (j + 1) := by
  rw [Int.pow_succ]; omega
/-- How far the reading of a number has come: j digits were looked at. -/
def NumRel (b : Nat) (s : ByteArray) (ok : Bool) (k : Nat) (w : World) (v i : Value) (wr : World) : Prop :=
  ∃ (j : Nat) (ok' : Bool) (n : Int), j ≤ k ∧ i = .int .i64 j ∧ v = .int .i64 n ∧ 0 ≤ n ∧ n < 1000 ^ j ∧ Rd wr b s ok' ∧ Below b w wr ∧ (ok' = true → k ≤ s.size) ∧
    ((ok' = true ∧ ok = true ∧ (s.data.toList.take j).all Dp.isDig = true ∧ n = Dp.val (s.data.toList.take j)) ∨
     (ok' = false ∧ ¬ (ok = true ∧ k ≤ s.size ∧ (s.data.toList.take k).all Dp.isDig = true)))
theorem all_take_of {l : List UInt8} {j k : Nat} (hj : j < k) (hl : k ≤ l.length) (h : (l.take k).all Dp.isDig = true) : Dp.isDig l[j] = true := by
  rw [List.all_eq_true] at h
  apply h
  rw [List.mem_take_iff_getElem]
  exact ⟨j, by omega, rfl⟩
theorem pNum_bad {k : Nat} {lo hi : Int} {s : ByteArray} {ok : Bool} (h : ¬ (ok = true ∧ k ≤ s.size ∧ (s.data.toList.take k).all Dp.isDig = true)) :
    Dp.pNum k lo hi (if ok = true then some s.data.toList else none) = (0, none) := by
  cases ok
  · rfl
  · show (if _ then _ else _) = _
    rw [if_neg]
    intro hx
    rw [Dp.numOk_iff, size_len] at hx
    exact h ⟨rfl, hx.1, hx.2.1⟩
theorem pNum_out {k : Nat} {lo hi : Int} {s : ByteArray} {n : Int} (hn : n = Dp.val (s.data.toList.take k)) (h : n < lo ∨ hi < n) :
    Dp.pNum k lo hi (some s.data.toList) = (0, none) := by
  show (if _ then _ else _) = _
  rw [if_neg]
  intro hx
  rw [Dp.numOk_iff] at hx
  omega
theorem pNum_in {k : Nat} {lo hi : Int} {s : ByteArray} {n : Int} (hn : n = Dp.val (s.data.toList.take k)) (hk : k ≤ s.size) (hd : (s.data.toList.take k).all Dp.isDig = true) (h1 : lo ≤ n) (h2 : n ≤ hi) :
    Dp.pNum k lo hi (some s.data.toList) = (n, some (s.data.toList.drop k)) := by
  show (if _ then _ else _) = _
  rw [if_pos]
  · rw [← hn]
  · rw [Dp.numOk_iff, size_len, ← hn]
    exact ⟨hk, hd, h1, h2⟩

theorem dig_at {s : ByteArray} {j : Nat} (hj : j < s.size) : Dp.isDig (s.data.toList[j]'(by rw [size_len]; exact hj)) = (decide (48 ≤ s[j].toNat) && decide (s[j].toNat ≤ 57)) := rfl
theorem num_next {s : ByteArray} {ok : Bool} {j k : Nat} {n : Int} (hj : j < k) (hk : k ≤ s.size) (h1 : ok = true) (h2 : (s.data.toList.take j).all Dp.isDig = true) (h3 : n = Dp.val (s.data.toList.take j)) (h4 : 48 ≤ ((s[j]'(by omega)).toNat : Int)) :
    (decide (((s[j]'(by omega)).toNat : Int) ≤ 57) = true ∧ ok = true ∧ (s.data.toList.take (j + 1)).all Dp.isDig = true ∧ 10 * n + (((s[j]'(by omega)).toNat : Int) - 48) % 256 = Dp.val (s.data.toList.take (j + 1))) ∨
    (decide (((s[j]'(by omega)).toNat : Int) ≤ 57) = false ∧ ¬ (ok = true ∧ k ≤ s.size ∧ (s.data.toList.take k).all Dp.isDig = true)) := by
  have hjl : j < s.data.toList.length := by rw [size_len]; omega
  have hd := dig_at (s := s) (j := j) (by omega)
  have hlt : ((s[j]'(by omega)).toNat : Int) < 256 := by have := (s[j]'(by omega)).toNat_lt; omega
  by_cases h5 : ((s[j]'(by omega)).toNat : Int) ≤ 57
  · left
    refine ⟨by simpa using h5, h1, ?_, ?_⟩
    · rw [Dp.take_snoc _ _ hjl, Dp.all_snoc, h2, hd]
      simp
      omega
    · rw [Dp.take_snoc _ _ hjl, Dp.val_snoc, ← h3]
      rw [← getElem_data s j (by omega)]
      omega
  · right
    refine ⟨by simpa using h5, fun hx => ?_⟩
    have := all_take_of hj (by rw [size_len]; exact hk) hx.2.2
    rw [hd] at this
    simp at this
    omega
theorem num_stop {s : ByteArray} {ok : Bool} {j k : Nat} {m : Int} {P : Prop} (hj : j < k) (hk : k ≤ s.size) (h4 : ¬ 48 ≤ ((s[j]'(by omega)).toNat : Int)) :
    (false = true ∧ P ∧ (s.data.toList.take (j + 1)).all Dp.isDig = true ∧ m = Dp.val (s.data.toList.take (j + 1))) ∨
    (false = false ∧ ¬ (ok = true ∧ k ≤ s.size ∧ (s.data.toList.take k).all Dp.isDig = true)) := by
  right
  refine ⟨rfl, fun hx => ?_⟩
  have hd := dig_at (s := s) (j := j) (by omega)
  have := all_take_of hj (by rw [size_len]; exact hk) hx.2.2
  rw [hd] at this
  simp at this
  omega

set_option maxHeartbeats 1000000 in
theorem d_number_any (b : Nat) (k : Nat) (lo hi : Int) (st : Option (List UInt8)) (w : World) (h : St w b st) (hk : k ≤ 4) :
    Calls Try.prog 70 #[.pointer (some ⟨b, 0, none⟩), .int .i64 k, .int .i64 lo, .int .i64 hi] w fun e w' => e = .returned (.int .i64 (Dp.pNum k lo hi st).1) ∧ St w' b (Dp.pNum k lo hi st).2 ∧ Below b w w' := by
  obtain ⟨s, ok, hR, rfl⟩ := h
  have c0 := hR.c0
  have c1 := hR.c1
  have f0 := hR.f0
  have f1 := hR.f1
  have hs := hR.hs
  have hb0 : Below b w w := Below.refl _ _
  generalize hst : (if ok = true then some s.data.toList else none) = st
  have HST := Lib.hid hst
  clear hst
  obtain ⟨okv, hokv⟩ : ∃ okv, okv = ok := ⟨_, rfl⟩
  rw [← hokv] at HST
  cases ok
  all_goals
    have HK := Lib.hid hokv
    clear hokv
    go_enter Try.func70, Try.ntmps70
    go_wp2
  all_goals
    go_loopw [9, 10] (fun n i wr => NumRel b s okv k w n i wr) (fun _ i _ => k - (intOf i).toNat)
    case atStart =>
      refine ⟨0, _, 0, by omega, by go_num, rfl, by omega, by decide, hR.set1 _, bset hb0 _ _ _ (Nat.le_refl _), by simp, ?_⟩
      have hokv := HK.out
      clear HST HK
      by_cases hx : k ≤ s.size
      · simp_all [Dp.val]
      · right
        refine ⟨?_, fun h => hx h.2.1⟩
        simp_all
    case round =>
      obtain ⟨j, ok', n, hj, rfl, rfl, hn0, hn1, hRr, hbr, hsz, hcase⟩ := hrel
      have hnb := num_bound j (by omega) n hn1
      have HN := Lib.hid hcase
      have HP := Lib.hid hn1
      clear hcase hn1
      clear c0 c1 f0 f1
      have c0 := hRr.c0
      have c1 := hRr.c1
      have f0 := hRr.f0
      have f1 := hRr.f1
      cases ok'
      · have hbad : ¬ (okv = true ∧ k ≤ s.size ∧ (s.data.toList.take k).all Dp.isDig = true) := by
          rcases HN.out with h | h
          · exact absurd h.1 (by simp)
          · exact h.2
        have HX := Lib.hid (pNum_bad (lo := lo) (hi := hi) hbad)
        clear hbad
        by_cases hlt : j < k
        all_goals
          go_wp2
          go_ret
          rw [← HST.out, HX.out]
          exact ⟨rfl, ⟨_, _, hRr.set1 _, rfl⟩, bset hbr _ _ _ (Nat.le_refl _)⟩
      · have hsz' := hsz rfl
        clear hsz
        have hok : okv = true ∧ (s.data.toList.take j).all Dp.isDig = true ∧ n = Dp.val (s.data.toList.take j) := by
          rcases HN.out with h | h
          · exact h.2
          · exact absurd h.1 (by simp)
        by_cases hlt : j < k
        · have hjs : j < s.size := by omega
          have HO := Lib.hid hok
          clear hok
          go_wp2
          all_goals
            go_roundw
            case rel =>
              have hcb : (s[j].toNat : Int) < 256 := by have := s[j].toNat_lt; omega
              refine ⟨j + 1, _, _, by omega, by go_num, rfl, by omega, num_bound_next j n _ hn0 HP.out (by omega), hRr.set1 _, bset hbr _ _ _ (Nat.le_refl _), fun _ => hsz', ?_⟩
              by_cases h48 : 48 ≤ (s[j].toNat : Int)
              · first
                  | (exfalso; omega)
                  | exact num_next hlt hsz' HO.out.1 HO.out.2.1 HO.out.2.2 h48
              · first
                  | (exfalso; omega)
                  | exact num_stop hlt hsz' h48
            case measure => simp [intOf]; omega
        · have hjk : j = k := by omega
          subst hjk
          have HO := Lib.hid hok
          clear hok
          by_cases hlo : n < lo
          · go_wp2
            go_ret
            rw [← HST.out, HO.out.1]
            simp only [if_true]
            rw [pNum_out HO.out.2.2 (Or.inl hlo)]
            exact ⟨rfl, ⟨_, _, hRr.set1 _, rfl⟩, bset hbr _ _ _ (Nat.le_refl _)⟩
          · by_cases hhi : hi < n
            · go_wp2
              go_ret
              rw [← HST.out, HO.out.1]
              simp only [if_true]
              rw [pNum_out HO.out.2.2 (Or.inr hhi)]
              exact ⟨rfl, ⟨_, _, hRr.set1 _, rfl⟩, bset hbr _ _ _ (Nat.le_refl _)⟩
            · go_wp2
              go_ret
              rw [← HST.out, HO.out.1]
              simp only [if_true]
              rw [pNum_in HO.out.2.2 hsz' HO.out.2.1 (by omega) (by omega)]
              exact ⟨rfl, ⟨_, _, hRr.set0 _ (by simp; omega), by rw [extract_end]; rfl⟩, bset hbr _ _ _ (Nat.le_refl _)⟩

end Go.Proofs.Ytdcdckjdloddiaa
namespace Go.Proofs.Ytdcdckjdloddiaa
open Go.RowKit

theorem pName_none {n : Nat} {all s : ByteArray} (h : ∀ j, j < n → Dp.hit all.data.toList s.data.toList j = false) : Dp.pName n all.data.toList (some s.data.toList) = (0, none) := by
  simp only [Dp.pName]
  rw [Dp.find_none h]
theorem pName_some {n k : Nat} {all s : ByteArray} (hk : k < n) (h : ∀ j, j < k → Dp.hit all.data.toList s.data.toList j = false) (hh : Dp.hit all.data.toList s.data.toList k = true) : Dp.pName n all.data.toList (some s.data.toList) = ((k : Int), some (s.data.toList.drop 3)) := by
  simp only [Dp.pName]
  rw [Dp.find_some k hk h hh]
theorem hit_short {n j : Nat} {all s : ByteArray} (hn : all.size = 3 * n) (hj : j < n) (hs : s.size < 3) : Dp.hit all.data.toList s.data.toList j = false := by
  unfold Dp.hit
  rw [beq_eq_false_iff_ne]
  intro e
  have := congrArg List.length e
  simp at this
  omega
theorem hit_eq {j : Nat} (all s : ByteArray) : ((s.extract 0 3).toList == (all.extract (3 * j) (3 * j + 3)).toList) = Dp.hit all.data.toList s.data.toList j := by
  rw [Lib.toList_data, Lib.toList_data, extract_front, Lib.extract_data, show 3 * j + 3 - 3 * j = 3 by omega]
  rfl

set_option maxHeartbeats 1000000 in
theorem name_any (b n : Nat) (all : ByteArray) (st : Option (List UInt8)) (w : World) (h : St w b st) (hn : all.size = 3 * n) (hn2 : n ≤ 12) :
    Calls Try.prog 68 #[.pointer (some ⟨b, 0, none⟩), .string all] w fun e w' => e = .returned (.int .i64 (Dp.pName n all.data.toList st).1) ∧ St w' b (Dp.pName n all.data.toList st).2 ∧ Below b w w' := by
  obtain ⟨s, ok, hR, rfl⟩ := h
  have hs := hR.hs
  have hb0 : Below b w w := Below.refl _ _
  have HN := Lib.hid hn
  have hn3 : all.size ≤ 3 * n := by omega
  have hn4 : 3 * n ≤ all.size := by omega
  clear hn
  cases ok
  · have c0 := hR.c0
    have c1 := hR.c1
    have f0 := hR.f0
    have f1 := hR.f1
    go_enter Try.func68, Try.ntmps68
    go_wp2
    go_loopw [5] (fun i wr => i = .int .i64 0 ∧ wr = w) (fun i _ => 0)
    case atStart => exact ⟨rfl, rfl⟩
    case round =>
      obtain ⟨rfl, rfl⟩ := hrel
      by_cases h0 : 0 < all.size
      · go_wp2
        go_ret
        exact ⟨rfl, ⟨_, _, hR.set1 _, rfl⟩, bset hb0 _ _ _ (Nat.le_refl _)⟩
      · go_wp2
        go_ret
        exact ⟨rfl, ⟨_, _, hR.set1 _, rfl⟩, bset hb0 _ _ _ (Nat.le_refl _)⟩
  · simp only [if_true]
    go_enter Try.func68, Try.ntmps68
    go_wp2
    have HR := Lib.hid hR
    have c0 := hR.c0
    clear hR
    go_loopw [5] (fun i wr => ∃ k : Nat, k ≤ n ∧ i = .int .i64 ((3 * k : Nat) : Int) ∧ Rd wr b s true ∧ Below b w wr ∧ ∀ j, j < k → Dp.hit all.data.toList s.data.toList j = false) (fun i _ => 3 * n - (intOf i).toNat)
    case atStart => exact ⟨0, by omega, rfl, HR.out, hb0, by simp⟩
    case round =>
      obtain ⟨k, hk, rfl, hRr, hb1, hno⟩ := hrel
      have HNO := Lib.hid hno
      clear hno c0
      have c0 := hRr.c0
      have c1 := hRr.c1
      have f0 := hRr.f0
      have f1 := hRr.f1
      by_cases hlt : k < n
      · by_cases h3 : 3 ≤ s.size
        · cases hm : ((s.extract 0 3).toList == (all.extract (3 * k) (3 * k + 3)).toList)
          · go_wp2
            go_quiet (fail)
            go_wp2
            go_roundw
            case rel =>
              refine ⟨k + 1, by omega, by go_num, hRr.drewN _, bdrawN hb1 _, fun j hj => ?_⟩
              rw [hit_eq] at hm
              by_cases e : j = k
              · rw [e]; exact hm
              · exact HNO.out j (by omega)
            case measure => simp [intOf]; omega
          · go_wp2
            go_quiet (fail)
            go_wp2
            go_ret
            rw [hit_eq] at hm
            rw [pName_some hlt HNO.out hm]
            exact ⟨ret_int (by omega), ⟨_, _, (hRr.drewN _).set0 _ (by simp; omega), by rw [extract_end]; rfl⟩, bset (bdrawN hb1 _) _ _ _ (Nat.le_refl _)⟩
        · go_wp2
          go_ret
          rw [pName_none (fun j hj => hit_short HN.out hj (by omega))]
          exact ⟨rfl, ⟨_, _, hRr.set1 _, rfl⟩, bset hb1 _ _ _ (Nat.le_refl _)⟩
      · go_wp2
        go_ret
        rw [pName_none (fun j hj => HNO.out j (by omega))]
        exact ⟨rfl, ⟨_, _, hRr.set1 _, rfl⟩, bset hb1 _ _ _ (Nat.le_refl _)⟩

end Go.Proofs.Ytdcdckjdloddiaa
