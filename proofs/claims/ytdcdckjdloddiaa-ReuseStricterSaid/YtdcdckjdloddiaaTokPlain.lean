/-
  Tokens, lists and quoted texts, as functions of lists of bytes.
-/
import Derived.Test.YtdcdckjdloddiaaBuf
import Derived.Lib.Strings
import Derived.Lib.Bytealg
namespace Go.Proofs.Ytdcdckjdloddiaa
open Go.RowKit

def othersL : List UInt8 := [33, 35, 36, 37, 38, 39, 42, 43, 45, 46, 94, 95, 124, 126, 96]
def signB (c : UInt8) : Bool := (decide (97 ≤ (c.toNat : Int)) && decide ((c.toNat : Int) ≤ 122)) || ((decide (65 ≤ (c.toNat : Int)) && decide ((c.toNat : Int) ≤ 90)) || ((decide (48 ≤ (c.toNat : Int)) && decide ((c.toNat : Int) ≤ 57)) || decide (0 ≤ Lib.indexByte othersL c)))
def plainB (c : UInt8) : Bool := (decide (32 ≤ (c.toNat : Int)) && ((c.toNat : Int) != 127)) || ((c.toNat : Int) == 9)
def blankB (c : UInt8) : Bool := ((c.toNat : Int) == 32) || ((c.toNat : Int) == 9)
def tokB (l : List UInt8) : Bool := l.all signB && !l.isEmpty
def lowC (c : UInt8) : UInt8 := if 65 ≤ c.toNat ∧ c.toNat ≤ 90 then UInt8.ofNat (c.toNat + 32) else c
def lowerL (l : List UInt8) : List UInt8 := l.map lowC
def trimR (l : List UInt8) : List UInt8 := (l.reverse.dropWhile blankB).reverse
def trimL (l : List UInt8) : List UInt8 := trimR (l.dropWhile blankB)
/-- How many bytes up to the quote that ends a quoted text, it too. -/
def qend : List UInt8 → Option Nat
  | [] => none
  | c :: r => if c = 92 then (match r with | [] => none | _ :: r' => (qend r').map (· + 2)) else if c = 34 then some 1 else (qend r).map (· + 1)
def elemL (l : List UInt8) : List (List UInt8) := if (trimL l).isEmpty then [] else [trimL l]
/-- The elements of what is left, the one that has been begun ahead of it. -/
def splGo : Nat → List UInt8 → List UInt8 → Option (List (List UInt8))
  | 0, _, _ => none
  | _ + 1, cur, [] => some (elemL cur)
  | f + 1, cur, c :: r => if c = 44 then (splGo f [] r).map (elemL cur ++ ·) else if c = 34 then (match qend r with | none => none | some n => splGo f (cur ++ c :: r.take n) (r.drop n)) else splGo f (cur ++ [c]) r
def splF (l : List UInt8) : Option (List (List UInt8)) := splGo (l.length + 1) [] l
def unqGo : List UInt8 → Option (List UInt8)
  | [] => some []
  | c :: r => if c = 34 then none else if c = 92 then (match r with | [] => none | d :: r' => if plainB d then (unqGo r').map (d :: ·) else none) else if plainB c then (unqGo r).map (c :: ·) else none
def unqF (l : List UInt8) : Option (List UInt8) :=
  if tokB l then some l else if l.length < 2 then none else if l.getD 0 0 ≠ 34 then none else if l.getD (l.length - 1) 0 ≠ 34 then none else unqGo ((l.take (l.length - 1)).drop 1)
structure PairL where
  name : List UInt8
  value : List UInt8
  has : Bool
/-- Up to the first '=', and what is behind it. -/
def cutEq : List UInt8 → Option (List UInt8 × List UInt8)
  | [] => none
  | c :: r => if c = 61 then some ([], r) else (cutEq r).map fun p => (c :: p.1, p.2)
def ofF (l : List UInt8) : Option PairL :=
  if tokB l then some ⟨lowerL l, [], false⟩ else match cutEq l with
    | none => none
    | some (n, v) => if tokB n then (unqF v).map fun x => ⟨lowerL n, x, true⟩ else none

theorem qend_bd : ∀ (l : List UInt8) (n : Nat), qend l = some n → 1 ≤ n ∧ n ≤ l.length
  | [], n, h => by simp [qend] at h
  | c :: r, n, h => by
    unfold qend at h
    by_cases h1 : c = 92
    · rw [if_pos h1] at h
      match r, h with
      | [], h => simp at h
      | d :: r', h =>
        simp only [Option.map_eq_some_iff] at h
        obtain ⟨m, hm, rfl⟩ := h
        have := qend_bd r' m hm
        simp
        omega
    · rw [if_neg h1] at h
      by_cases h2 : c = 34
      · rw [if_pos h2] at h
        simp at h
        subst h
        simp
      · rw [if_neg h2] at h
        simp only [Option.map_eq_some_iff] at h
        obtain ⟨m, hm, rfl⟩ := h
        have := qend_bd r m hm
        simp
        omega
/-- More fuel changes nothing. -/
theorem splGo_more : ∀ (f : Nat) (cur l : List UInt8), l.length < f → ∀ g, l.length < g → splGo f cur l = splGo g cur l
  | 0, _, _, h, _, _ => by omega
  | _, _, _, _, 0, h => by omega
  | f + 1, cur, [], _, g + 1, _ => rfl
  | f + 1, cur, c :: r, h, g + 1, hg => by
    simp only [List.length_cons] at h hg
    unfold splGo
    by_cases h1 : c = 44
    · rw [if_pos h1, if_pos h1, splGo_more f [] r (by omega) g (by omega)]
    · rw [if_neg h1, if_neg h1]
      by_cases h2 : c = 34
      · rw [if_pos h2, if_pos h2]
        cases hq : qend r with
        | none => rfl
        | some n =>
          have := qend_bd r n hq
          exact splGo_more f _ _ (by rw [List.length_drop]; omega) g (by rw [List.length_drop]; omega)
      · rw [if_neg h2, if_neg h2, splGo_more f _ r (by omega) g (by omega)]

end Go.Proofs.Ytdcdckjdloddiaa
