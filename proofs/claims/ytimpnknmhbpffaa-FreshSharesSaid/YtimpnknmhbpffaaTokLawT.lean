/-
  What lowering, trimming and splitting meet: done again they change nothing; elements are not empty, and trimmed.
-/
import Derived.Test.YtimpnknmhbpffaaTokMore
import Derived.Test.YtimpnknmhbpffaaTokPlain
namespace Go.Proofs.Ytimpnknmhbpffaa
open Go.RowKit

theorem all_bytes {p : UInt8 → Bool} (h : (List.range 256).all (fun n => p (UInt8.ofNat n)) = true) (c : UInt8) : p c = true := by
  have := List.all_eq_true.1 h c.toNat (List.mem_range.2 c.toNat_lt)
  rwa [UInt8.ofNat_toNat] at this
theorem low_low (c : UInt8) : lowC (lowC c) = lowC c := by
  have := all_bytes (p := fun c => lowC (lowC c) == lowC c) (by decide +kernel) c
  exact eq_of_beq this
theorem sign_low (c : UInt8) : signB (lowC c) = signB c := by
  have := all_bytes (p := fun c => signB (lowC c) == signB c) (by decide +kernel) c
  exact eq_of_beq this
theorem lower_lower (l : List UInt8) : lowerL (lowerL l) = lowerL l := by
  unfold lowerL
  rw [List.map_map]
  apply List.map_congr_left
  intro c _
  exact low_low c
theorem lower_len (l : List UInt8) : (lowerL l).length = l.length := by simp [lowerL]
theorem tok_lower (l : List UInt8) : tokB (lowerL l) = tokB l := by
  unfold tokB lowerL
  rw [List.all_map]
  have e : (signB ∘ lowC) = signB := by
    funext c
    exact sign_low c
  rw [e]
  cases l <;> rfl
theorem dropWhile_twice {p : UInt8 → Bool} (l : List UInt8) : (l.dropWhile p).dropWhile p = l.dropWhile p := by
  induction l with
  | nil => rfl
  | cons c r ih =>
    rw [List.dropWhile_cons]
    by_cases h : p c = true
    · rw [if_pos h]; exact ih
    · rw [if_neg h, List.dropWhile_cons, if_neg h]
theorem trimR_twice (l : List UInt8) : trimR (trimR l) = trimR l := by
  unfold trimR
  rw [List.reverse_reverse, dropWhile_twice]
theorem drop_prefix {l x : List UInt8} (h : x <+: l) (hl : l.dropWhile blankB = l) : x.dropWhile blankB = x := by
  obtain ⟨y, rfl⟩ := h
  cases x with
  | nil => rfl
  | cons c r =>
    rw [List.cons_append, List.dropWhile_cons] at hl
    by_cases hc : blankB c = true
    · rw [if_pos hc] at hl
      have h1 := congrArg List.length hl
      have h2 := (dropWhile_suffix' (p := blankB) (r ++ y)).length_le
      simp at h1 h2
      omega
    · rw [List.dropWhile_cons, if_neg hc]
theorem trim_trim (l : List UInt8) : trimL (trimL l) = trimL l := by
  have h1 : (trimL l).dropWhile blankB = trimL l := drop_prefix (trimR_prefix _) (dropWhile_twice l)
  unfold trimL at *
  rw [h1, trimR_twice]
def Elem (x : List UInt8) : Prop := x ≠ [] ∧ trimL x = x
theorem elemL_ok (c : List UInt8) : ∀ x ∈ elemL c, Elem x := by
  intro x hx
  unfold elemL at hx
  split at hx
  · cases hx
  · rename_i h
    simp at hx
    subst hx
    exact ⟨by intro e; rw [e] at h; simp at h, trim_trim c⟩
theorem splGo_ok : ∀ (f : Nat) (cur l : List UInt8) (L : List (List UInt8)), splGo f cur l = some L → ∀ x ∈ L, Elem x
  | 0, _, _, _, h => by simp [splGo] at h
  | f + 1, cur, [], L, h => by
    simp only [splGo, Option.some.injEq] at h
    subst h
    exact elemL_ok cur
  | f + 1, cur, c :: r, L, h => by
    unfold splGo at h
    by_cases h1 : c = 44
    · rw [if_pos h1] at h
      simp only [Option.map_eq_some_iff] at h
      obtain ⟨M, hM, rfl⟩ := h
      intro x hx
      rcases List.mem_append.1 hx with h | h
      · exact elemL_ok cur x h
      · exact splGo_ok f [] r M hM x h
    · rw [if_neg h1] at h
      by_cases h2 : c = 34
      · rw [if_pos h2] at h
        cases hq : qend r with
        | none => rw [hq] at h; cases h
        | some n => rw [hq] at h; exact splGo_ok f _ _ L h
      · rw [if_neg h2] at h
        exact splGo_ok f _ _ L h
theorem splF_ok {l : List UInt8} {L : List (List UInt8)} (h : splF l = some L) : ∀ x ∈ L, Elem x := splGo_ok _ _ _ L h

end Go.Proofs.Ytimpnknmhbpffaa
