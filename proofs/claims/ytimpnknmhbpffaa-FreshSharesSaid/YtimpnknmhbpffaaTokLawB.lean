/-
  A quoted text is told again, and split off again.
-/
import Derived.Test.YtimpnknmhbpffaaTokLawT
import Derived.Test.YtimpnknmhbpffaaQuoPlain
namespace Go.Proofs.Ytimpnknmhbpffaa
open Go.RowKit

theorem qend_esc : ∀ (l r : List UInt8), qend (escL l ++ 34 :: r) = some ((escL l).length + 1)
  | [], r => by
    show qend (34 :: r) = _
    unfold qend
    rw [if_neg (by decide), if_pos rfl]
    rfl
  | c :: l, r => by
    have e : escL (c :: l) = escC c ++ escL l := by simp [escL]
    rw [e]
    unfold escC
    by_cases h : c = 34 ∨ c = 92
    · rw [if_pos h]
      show qend (92 :: c :: (escL l ++ 34 :: r)) = _
      unfold qend
      rw [if_pos rfl]
      simp only
      rw [qend_esc l r]
      simp
    · rw [if_neg h]
      show qend (c :: (escL l ++ 34 :: r)) = _
      unfold qend
      rw [if_neg (fun e => h (Or.inr e)), if_neg (fun e => h (Or.inl e)), qend_esc l r]
      simp
theorem unq_escL : ∀ l : List UInt8, l.all plainB = true → unqGo (escL l) = some l
  | [], _ => rfl
  | c :: l, h => by
    have e : escL (c :: l) = escC c ++ escL l := by simp [escL]
    simp only [List.all_cons, Bool.and_eq_true] at h
    rw [e]
    unfold escC
    by_cases hc : c = 34 ∨ c = 92
    · rw [if_pos hc]
      show unqGo (92 :: c :: escL l) = _
      unfold unqGo
      rw [if_neg (by decide), if_pos rfl]
      simp only
      rw [if_pos h.1, unq_escL l h.2]
      rfl
    · rw [if_neg hc]
      show unqGo (c :: escL l) = _
      unfold unqGo
      rw [if_neg (fun e => hc (Or.inl e)), if_neg (fun e => hc (Or.inr e)), if_pos h.1, unq_escL l h.2]
      rfl
theorem quoL_len (l : List UInt8) : (quoL l).length = (escL l).length + 2 := by simp [quoL]
theorem sign34 : signB 34 = false := by decide +kernel
theorem unq_quoL (l : List UInt8) (h : l.all plainB = true) : unqF (quoL l) = some l := by
  have ht : tokB (quoL l) = false := by
    unfold tokB quoL
    rw [List.all_cons, sign34]
    rfl
  unfold unqF
  have hz := quoL_len l
  rw [if_neg (by rw [ht]; decide), if_neg (by omega), if_neg (by unfold quoL; simp)]
  have hlast : (quoL l).getD ((quoL l).length - 1) 0 = 34 := by
    rw [hz, show (escL l).length + 2 - 1 = (escL l).length + 1 by omega]
    unfold quoL
    rw [List.getD_cons_succ, List.getD_eq_getElem?_getD, List.getElem?_append_right (Nat.le_refl _), Nat.sub_self]
    rfl
  rw [if_neg (by rw [hlast]; simp)]
  have hin : ((quoL l).take ((quoL l).length - 1)).drop 1 = escL l := by
    rw [hz, show (escL l).length + 2 - 1 = (escL l).length + 1 by omega]
    unfold quoL
    rw [List.take_succ_cons, List.drop_succ_cons, List.drop_zero, List.take_append_of_le_length (Nat.le_refl _), List.take_length]
  rw [hin]
  exact unq_escL l h
theorem trim_piece (l : List UInt8) : trimL (32 :: (quoL l ++ [9])) = quoL l := by
  have b32 : blankB 32 = true := by decide
  have b9 : blankB 9 = true := by decide
  have b34 : blankB 34 = false := by decide
  unfold trimL
  rw [List.dropWhile_cons, if_pos b32]
  have h1 : (quoL l ++ [9]).dropWhile blankB = quoL l ++ [9] := by
    unfold quoL
    rw [List.cons_append, List.dropWhile_cons, if_neg (by rw [b34]; decide)]
  rw [h1, trimR_snoc_yes b9]
  have h2 : quoL l = (34 :: escL l) ++ [34] := rfl
  rw [h2, trimR_snoc_no b34]
theorem splT_piece (x r : List UInt8) : splT [] (32 :: (quoL x ++ 9 :: 44 :: r)) = (splT [] r).map ([quoL x] ++ ·) := by
  rw [splT_other _ _ _ (by decide) (by decide)]
  have h : quoL x ++ 9 :: 44 :: r = 34 :: (escL x ++ 34 :: 9 :: 44 :: r) := by simp [quoL]
  rw [h, splT_quote, qend_esc]
  simp only
  have h1 : (escL x ++ 34 :: 9 :: 44 :: r).take ((escL x).length + 1) = escL x ++ [34] := by
    rw [List.take_append, List.take_of_length_le (by omega), show (escL x).length + 1 - (escL x).length = 1 by omega]
    rfl
  have h2 : (escL x ++ 34 :: 9 :: 44 :: r).drop ((escL x).length + 1) = 9 :: 44 :: r := by
    rw [List.drop_append, List.drop_eq_nil_of_le (by omega), show (escL x).length + 1 - (escL x).length = 1 by omega]
    rfl
  rw [h1, h2, splT_other _ _ _ (by decide) (by decide), splT_comma]
  have h3 : ([] ++ [32] ++ 34 :: (escL x ++ [34])) ++ [9] = 32 :: (quoL x ++ [9]) := by simp [quoL]
  rw [h3]
  have h4 : elemL (32 :: (quoL x ++ [9])) = [quoL x] := by
    unfold elemL
    rw [trim_piece]
    rfl
  rw [h4]
def backLine (l : List (List UInt8)) : List UInt8 := l.flatMap fun x => 32 :: (quoL x ++ [9, 44])
theorem spl_back (l : List (List UInt8)) : splF (backLine l) = some (l.map quoL) := by
  rw [splF_T]
  induction l with
  | nil => rfl
  | cons x l ih =>
    have e : backLine (x :: l) = 32 :: (quoL x ++ 9 :: 44 :: backLine l) := by simp [backLine]
    rw [e, splT_piece, ih]
    rfl

end Go.Proofs.Ytimpnknmhbpffaa
