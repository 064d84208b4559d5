/-
  How long the values of pairs are.
-/
import Derived.Test.YtimpnknmhbpffaaTokPairs
namespace Go.Proofs.Ytimpnknmhbpffaa
open Go.RowKit

theorem unqGo_len : ∀ (n : Nat) (l x : List UInt8), l.length ≤ n → unqGo l = some x → x.length ≤ l.length
  | _, [], x, _, h => by simp [unqGo] at h; subst h; simp
  | 0, c :: r, x, hn, _ => by simp at hn
  | n + 1, c :: r, x, hn, h => by
    simp only [List.length_cons] at hn
    unfold unqGo at h
    by_cases h1 : c = 34
    · rw [if_pos h1] at h; cases h
    · rw [if_neg h1] at h
      by_cases h2 : c = 92
      · rw [if_pos h2] at h
        cases r with
        | nil => cases h
        | cons d r' =>
          simp only at h
          split at h
          · simp only [Option.map_eq_some_iff] at h
            obtain ⟨y, hy, rfl⟩ := h
            simp only [List.length_cons] at hn ⊢
            have := unqGo_len n r' y (by omega) hy
            omega
          · cases h
      · rw [if_neg h2] at h
        split at h
        · simp only [Option.map_eq_some_iff] at h
          obtain ⟨y, hy, rfl⟩ := h
          have := unqGo_len n r y (by omega) hy
          simp only [List.length_cons]
          omega
        · cases h
theorem unqF_len {l x : List UInt8} (h : unqF l = some x) : x.length ≤ l.length := by
  unfold unqF at h
  split at h
  · simp only [Option.some.injEq] at h; subst h; omega
  · split at h
    · cases h
    · split at h
      · cases h
      · split at h
        · cases h
        · have := unqGo_len _ _ _ (Nat.le_refl _) h
          simp only [List.length_drop, List.length_take] at this
          omega
theorem cutEq_len : ∀ {l n v : List UInt8}, cutEq l = some (n, v) → n.length + v.length < l.length
  | [], _, _, h => by simp [cutEq] at h
  | c :: r, n, v, h => by
    unfold cutEq at h
    split at h
    · simp only [Option.some.injEq, Prod.mk.injEq] at h
      obtain ⟨rfl, rfl⟩ := h
      simp
    · simp only [Option.map_eq_some_iff, Prod.mk.injEq] at h
      obtain ⟨⟨a, b⟩, hab, rfl, rfl⟩ := h
      have := cutEq_len hab
      simp only [List.length_cons]
      omega
theorem ofF_len {l : List UInt8} {p : PairL} (h : ofF l = some p) : p.value.length ≤ l.length := by
  unfold ofF at h
  split at h
  · simp only [Option.some.injEq] at h; subst h; simp
  · split at h
    · cases h
    · rename_i n v hc
      split at h
      · simp only [Option.map_eq_some_iff] at h
        obtain ⟨x, hx, rfl⟩ := h
        have h1 := cutEq_len hc
        have h2 := unqF_len hx
        simp only
        omega
      · cases h
theorem pairsF_len {name : List UInt8} {l : List FieldL} {n : Nat} (hn : (Lib.join (valsF name l) [44, 32]).length ≤ n) : ∀ p ∈ pairsF name l, p.value.length ≤ n := by
  intro p hp
  unfold pairsF at hp
  obtain ⟨x, hx, hxp⟩ := List.mem_filterMap.1 hp
  have h1 := ofF_len hxp
  have h2 : x.length ≤ (Lib.join (valsF name l) [44, 32]).length := by
    unfold partsF at hx
    cases hs : splF (Lib.join (valsF name l) [44, 32]) with
    | none => rw [hs] at hx; cases hx
    | some P => rw [hs] at hx; exact splF_len hs x hx
  omega

end Go.Proofs.Ytimpnknmhbpffaa
