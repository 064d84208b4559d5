/-
  append of fields at a step of a region that draws.
-/
import Derived.Test.YtdcdckjdloddiaaFlP
import Derived.Deep.RegionHeld
import Derived.Laws.Rows
import Derived.Laws.OwnMore
import Derived.Laws.AppendOwn
namespace Go.Proofs.Ytdcdckjdloddiaa
open Go.RowKit
set_option linter.unusedVariables false

/-- 'append(out, xs...)' at a step of a region that draws. -/
theorem wp_push21 {w : World} {o : Oper} {a : Act} {K : Act → World → Prop} {Q : Exit → Act → World → Prop} (s x : Operand)
    (ho : o.op = .call { callee := .builtin .append, args := #[s, x], argTypes := #[22, 22] })
    (base : Nat) (v u : Value) (l m : List FieldL) (hs : a.eval s = v) (hown : OwnF w base v l) (hx : a.eval x = u) (hr : RbF w u m)
    (hl : l.length + m.length ≤ 1000000000000) (hbase : base ≤ w.heap.size)
    (h : ∀ v' w', OwnF w' base v' (l ++ m) → w.grownBy w' v.ownBlock → K (a.put o.dst v') w') : o.wp Try.prog a w K Q := by
  obtain ⟨i0, hi, hz0, hz1, hz2⟩ := info_parts infoF
  rcases hr with ⟨rfl, rfl⟩ | ⟨b, off, cap, rfl, h1, h2, h3, h4⟩
  · have hrun := run_append_owned_none (P := Try.prog) (w := w) base 22 o.type 38 i0 2 Try.underlying22 hi v l.length (fv l) hown
    unfold Oper.wp
    simp [execOp, ho, resolve, invoke, builtin, hs, hx, hrun, Result.andThen]
    exact h v w (by rw [List.append_nil]; exact hown) ⟨rfl, rfl, rfl, Nat.le_refl _, fun _ _ _ => rfl⟩
  · refine wp_append_own w s x 22 ho base 38 i0 _ 2 32 Try.underlying22 hi hz0 hz1 hz2 rfl (by decide) v l.length (fv l) hs hown ⟨b, off, none⟩ m.length cap (fv m) hx (fv_len m) ?_ ?_ ?_ ?_ hbase ?_
    · intro j z hj
      obtain ⟨k, hk, ⟨rfl, rfl⟩ | ⟨rfl, rfl⟩⟩ := fv_two m j z hj
      · rw [Addr.add_lit, (h4 k hk).1]
      · rw [Addr.add_lit, ← Nat.add_assoc, (h4 k hk).2]
    · exact fv_one m
    · unfold maxLen; omega
    · omega
    · intro v' w' g1 g2 _
      refine h v' w' ?_ g2
      unfold OwnF
      rw [fv_append, List.length_append]
      exact g1
theorem step_push21 {w : World} {ops : Array Oper} {o : Oper} {a : Act} {K : Act → World → Prop} {Q : Exit → Act → World → Prop} {E : Prop} (hgd : o.guard = none) (s x : Operand)
    (ho : o.op = .call { callee := .builtin .append, args := #[s, x], argTypes := #[22, 22] })
    (base : Nat) (v u : Value) (l m : List FieldL) (hs : a.eval s = v) (hown : OwnF w base v l) (hx : a.eval x = u) (hr : RbF w u m)
    (hl : l.length + m.length ≤ 1000000000000) (hbase : base ≤ w.heap.size)
    (h : ∀ v' w', OwnF w' base v' (l ++ m) → w.grownBy w' v.ownBlock → K (a.put o.dst v') w') : if Region.wanted o (yielded ops a.tmps) = true then Oper.wp Try.prog o a w K Q else E := by
  have hw : Region.wanted o (yielded ops a.tmps) = true := by simp [Region.wanted, hgd]
  rw [if_pos hw]
  exact wp_push21 s x ho base v u l m hs hown hx hr hl hbase h
end Go.Proofs.Ytdcdckjdloddiaa
