/-
  append of a slice of fields to a list that the call made.
-/
import Derived.Test.YtdcdckjdloddiaaFl
import Derived.Laws.Rows
namespace Go.Proofs.Ytdcdckjdloddiaa
open Go.RowKit

theorem OwnF.empty (w : World) (base : Nat) (hb : base ≤ w.heap.size) : OwnF (w.alloc (.cells #[] 38)) base (.slice (some ⟨w.heap.size, 0, none⟩) 0 0) [] := by
  refine ⟨rfl, Or.inr ⟨w.heap.size, 0, #[], rfl, hb, heap_alloc_new w _, Nat.le_refl _, Nat.zero_le _, ?_⟩⟩
  simp [fv]
theorem new2c (w : World) (a b : Value) (t : TypeId) : (w.alloc (.cells #[a, b] t)).cell? ⟨w.heap.size, 0, none⟩ = some a ∧ (w.alloc (.cells #[a, b] t)).cell? ⟨w.heap.size, 1, none⟩ = some b := by
  constructor <;> simp [go_sem]
theorem fv_two (m : List FieldL) (j : Nat) (u : Value) (h : (fv m)[j]? = some u) : ∃ k, ∃ hk : k < m.length, (j = k * 2 ∧ u = strV m[k].1) ∨ (j = k * 2 + 1 ∧ u = strV m[k].2) := by
  have hj : j < m.length * 2 := by
    rcases Nat.lt_or_ge j (fv m).length with h1 | h1
    · rwa [fv_len] at h1
    · rw [List.getElem?_eq_none h1] at h; cases h
  refine ⟨j / 2, by omega, ?_⟩
  have hg := fv_get m (j / 2) (by omega)
  have h2 : j = j / 2 * 2 ∨ j = j / 2 * 2 + 1 := by omega
  rcases h2 with h2 | h2
  · refine Or.inl ⟨h2, ?_⟩
    rw [h2, hg.1] at h
    exact (Option.some.inj h).symm
  · refine Or.inr ⟨h2, ?_⟩
    rw [h2, hg.2] at h
    exact (Option.some.inj h).symm
/-- 'append(out, xs...)', out the call's own. -/
theorem wpList_pushesF {w : World} {ops : Array Oper} {rest : List Oper} {o : Oper} {a : Act} {Q : Exit → Act → World → Prop} (hgd : o.guard = none) (s x : Operand)
    (ho : o.op = .call { callee := .builtin .append, args := #[s, x], argTypes := #[22, 22] })
    (base : Nat) (v u : Value) (l m : List FieldL) (hs : a.eval s = v) (hown : OwnF w base v l) (hx : a.eval x = u) (hr : RbF w u m)
    (hl : l.length + m.length ≤ 1000000000000) (hbase : base ≤ w.heap.size)
    (h : ∀ v' w', OwnF w' base v' (l ++ m) → w.grownBy w' v.ownBlock → wpList Try.prog ops Q rest (a.put o.dst v') w') : wpList Try.prog ops Q (o :: rest) a w := by
  obtain ⟨i0, hi, hz0, hz1, hz2⟩ := info_parts infoF
  rcases hr with ⟨rfl, rfl⟩ | ⟨b, off, cap, rfl, h1, h2, h3, h4⟩
  · refine wpList_append_own_none hgd s x 22 ho base 38 i0 2 Try.underlying22 hi v l.length (fv l) hs hown hx ?_
    exact h v w (by rw [List.append_nil]; exact hown) ⟨rfl, rfl, rfl, Nat.le_refl _, fun _ _ _ => rfl⟩
  · refine wpList_append_own w hgd s x 22 ho base 38 i0 _ 2 32 Try.underlying22 hi hz0 hz1 hz2 rfl (by decide) v l.length (fv l) hs hown ⟨b, off, none⟩ m.length cap (fv m) hx (fv_len m) ?_ ?_ ?_ ?_ hbase ?_
    · intro j z hj
      obtain ⟨k, hk, ⟨rfl, rfl⟩ | ⟨rfl, rfl⟩⟩ := fv_two m j z hj
      · rw [Addr.add_lit, (h4 k hk).1]
      · rw [Addr.add_lit, ← Nat.add_assoc, (h4 k hk).2]
    · exact fv_one m
    · unfold maxLen; omega
    · omega
    · intro v' w' g1 g2 _
      refine h v' w' ?_ g2
      unfold OwnF
      rw [fv_append, List.length_append]
      exact g1

end Go.Proofs.Ytdcdckjdloddiaa
