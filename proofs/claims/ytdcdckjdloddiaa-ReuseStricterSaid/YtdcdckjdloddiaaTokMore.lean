/-
  token.Split, Unquote and Of with their results named; a new block of three cells; how long elements are.
-/
import Derived.Test.YtdcdckjdloddiaaTokSplit
namespace Go.Proofs.Ytdcdckjdloddiaa
open Go.RowKit

theorem split_some (s : ByteArray) (L : List (List UInt8)) (w : World) (hs : s.size ≤ 1000000000) (h : splF s.data.toList = some L) :
    Calls Try.prog 66 #[.string s] w fun e w' => ∃ v, e = .returned (.tuple #[v, .bool true]) ∧ OwnS w' w.heap.size v L ∧ Aft w w' := by
  have := split_any s w hs
  rw [h] at this
  refine this.mono ?_
  rintro e w' ⟨⟨v, rfl, ho⟩, ha⟩
  exact ⟨v, rfl, ho, ha⟩
theorem split_none (s : ByteArray) (w : World) (hs : s.size ≤ 1000000000) (h : splF s.data.toList = none) :
    Calls Try.prog 66 #[.string s] w fun e w' => e = .returned (.tuple #[.slice none 0 0, .bool false]) ∧ Aft w w' := by
  have := split_any s w hs
  rw [h] at this
  exact this
theorem unq_of (s : ByteArray) (v : Value) (w : World) (hs : s.size ≤ 1000000000) (h : uqres (unqF s.data.toList) = v) :
    Calls Try.prog 87 #[.string s] w fun e w' => e = .returned v ∧ Aft w w' := by
  rw [← h]
  exact unquote_any s w hs
theorem of_of (s : ByteArray) (v : Value) (w : World) (hs : s.size ≤ 1000000000) (h : ofres (ofF s.data.toList) = v) :
    Calls Try.prog 67 #[.string s] w fun e w' => e = .returned v ∧ Aft w w' := by
  rw [← h]
  exact of_any s w hs

/-- Block g holds three cells. -/
structure P3 (w : World) (g : Nat) (a b c : Value) : Prop where
  c0 : w.cell? ⟨g, 0, none⟩ = some a
  c1 : w.cell? ⟨g, 1, none⟩ = some b
  c2 : w.cell? ⟨g, 2, none⟩ = some c
  lt : g < w.heap.size
theorem P3.new (w : World) (a b c : Value) (t : TypeId) : P3 (w.alloc (.cells #[a, b, c] t)) w.heap.size a b c :=
  ⟨by simp [go_sem], by simp [go_sem], by simp [go_sem], by simp⟩
theorem P3.aft {w w' : World} {g : Nat} {a b c : Value} (h : P3 w g a b c) (ha : Aft w w') : P3 w' g a b c :=
  ⟨by rw [Below.cell ha.to (p := ⟨g, 0, none⟩) h.lt]; exact h.c0, by rw [Below.cell ha.to (p := ⟨g, 1, none⟩) h.lt]; exact h.c1, by rw [Below.cell ha.to (p := ⟨g, 2, none⟩) h.lt]; exact h.c2, Nat.lt_of_lt_of_le h.lt ha.size⟩
theorem dropWhile_suffix' {p : UInt8 → Bool} (l : List UInt8) : l.dropWhile p <:+ l := by
  induction l with
  | nil => exact List.suffix_refl _
  | cons c r ih =>
    rw [List.dropWhile_cons]
    by_cases h : p c = true
    · rw [if_pos h]; exact ih.trans (List.suffix_cons _ _)
    · rw [if_neg h]; exact List.suffix_refl _
theorem trimR_prefix (l : List UInt8) : trimR l <+: l := by
  unfold trimR
  have := dropWhile_suffix' (p := blankB) l.reverse
  have h2 := List.reverse_prefix.2 this
  rwa [List.reverse_reverse] at h2
theorem trim_len (l : List UInt8) : (trimL l).length ≤ l.length := by
  have h1 := (trimR_prefix (l.dropWhile blankB)).length_le
  have h2 := (dropWhile_suffix' (p := blankB) l).length_le
  unfold trimL
  omega
theorem elemL_len (c : List UInt8) : ∀ x ∈ elemL c, x.length ≤ c.length := by
  intro x hx
  unfold elemL at hx
  split at hx
  · cases hx
  · simp at hx
    subst hx
    exact trim_len c
theorem splGo_len : ∀ (f : Nat) (cur l : List UInt8) (L : List (List UInt8)), splGo f cur l = some L → ∀ x ∈ L, x.length ≤ cur.length + l.length
  | 0, _, _, _, h => by simp [splGo] at h
  | f + 1, cur, [], L, h => by
    simp only [splGo, Option.some.injEq] at h
    subst h
    intro x hx
    have := elemL_len cur x hx
    omega
  | f + 1, cur, c :: r, L, h => by
    unfold splGo at h
    by_cases h1 : c = 44
    · rw [if_pos h1] at h
      simp only [Option.map_eq_some_iff] at h
      obtain ⟨M, hM, rfl⟩ := h
      intro x hx
      simp only [List.length_cons]
      rcases List.mem_append.1 hx with h | h
      · have := elemL_len cur x h
        omega
      · have := splGo_len f [] r M hM x h
        simp only [List.length_nil] at this
        omega
    · rw [if_neg h1] at h
      by_cases h2 : c = 34
      · rw [if_pos h2] at h
        cases hq : qend r with
        | none => rw [hq] at h; cases h
        | some n =>
          rw [hq] at h
          intro x hx
          have := splGo_len f _ _ L h x hx
          simp only [List.length_append, List.length_cons, List.length_take, List.length_drop] at this ⊢
          omega
      · rw [if_neg h2] at h
        intro x hx
        have := splGo_len f _ _ L h x hx
        simp only [List.length_append, List.length_cons, List.length_nil] at this ⊢
        omega
theorem splF_len {l : List UInt8} {L : List (List UInt8)} (h : splF l = some L) : ∀ x ∈ L, x.length ≤ l.length := by
  intro x hx
  have := splGo_len _ _ _ L h x hx
  simpa using this

end Go.Proofs.Ytdcdckjdloddiaa
