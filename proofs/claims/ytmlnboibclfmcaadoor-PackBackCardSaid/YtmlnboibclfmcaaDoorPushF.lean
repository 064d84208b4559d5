/-
  'append(out, xs...)' at fields, in a region that draws.
-/
import Derived.Test.YtmlnboibclfmcaaDoorFlP
namespace Go.Proofs.YtmlnboibclfmcaaDoor
open Go.RowKit

theorem OwnF.new1 (w : World) (n x : ByteArray) : OwnF (w.alloc (.cells #[.string n, .string x] 28)) w.heap.size (.slice (some ⟨w.heap.size, 0, none⟩) 1 1) [(n.data.toList, x.data.toList)] := by
  refine ⟨rfl, Or.inr ⟨w.heap.size, 1, #[.string n, .string x], rfl, Nat.le_refl _, heap_alloc_new w _, Nat.le_refl _, by simp [maxLen], by simp, ?_⟩⟩
  simp [fv, strV]
theorem OwnF.new2 (w : World) (a b n x : ByteArray) : OwnF (w.alloc (.cells #[.string a, .string b, .string n, .string x] 28)) w.heap.size (.slice (some ⟨w.heap.size, 0, none⟩) 2 2) [(a.data.toList, b.data.toList), (n.data.toList, x.data.toList)] := by
  refine ⟨rfl, Or.inr ⟨w.heap.size, 2, #[.string a, .string b, .string n, .string x], rfl, Nat.le_refl _, heap_alloc_new w _, Nat.le_refl _, by simp [maxLen], by simp, ?_⟩⟩
  simp [fv, strV]
/-- 'append(out, xs...)' at a step of a region that draws. -/
theorem wp_pushesF {w : World} {o : Oper} {a : Act} {K : Act → World → Prop} {Q : Exit → Act → World → Prop} (s x : Operand)
    (ho : o.op = .call { callee := .builtin .append, args := #[s, x], argTypes := #[47, 47] })
    (base : Nat) (v u : Value) (l m : List FieldL) (hs : a.eval s = v) (hown : OwnF w base v l) (hx : a.eval x = u) (hr : RbF w u m)
    (hl : l.length + m.length ≤ 1000000000000) (hbase : base ≤ w.heap.size)
    (h : ∀ v' w', OwnF w' base v' (l ++ m) → w.grownBy w' v.ownBlock → K (a.put o.dst v') w') : o.wp Tryd.prog a w K Q := by
  obtain ⟨i0, hi, hz0, hz1, hz2⟩ := info_parts infoF
  rcases hr with ⟨rfl, rfl⟩ | ⟨b, off, cap, rfl, h1, h2, h3, h4⟩
  · have hrun := run_append_owned_none (P := Tryd.prog) (w := w) base 47 o.type 28 i0 2 Tryd.underlying47 hi v l.length (fv l) hown
    unfold Oper.wp
    simp [execOp, ho, resolve, invoke, builtin, hs, hx, hrun, Result.andThen]
    exact h v w (by rw [List.append_nil]; exact hown) ⟨rfl, rfl, rfl, Nat.le_refl _, fun _ _ _ => rfl⟩
  · refine wp_append_own w s x 47 ho base 28 i0 _ 2 32 Tryd.underlying47 hi hz0 hz1 hz2 rfl (by decide) v l.length (fv l) hs hown ⟨b, off, none⟩ m.length cap (fv m) hx (fv_len m) ?_ ?_ ?_ ?_ hbase ?_
    · intro j z hj
      obtain ⟨k, hk, ⟨rfl, rfl⟩ | ⟨rfl, rfl⟩⟩ := fv_two m j z hj
      · rw [Addr.add_lit, (h4 k hk).1]
      · rw [Addr.add_lit, ← Nat.add_assoc, (h4 k hk).2]
    · exact fv_one m
    · unfold maxLen; omega
    · omega
    · intro v' w' g1 g2 _
      refine h v' w' ?_ g2
      unfold OwnF
      rw [fv_append, List.length_append]
      exact g1
theorem step_pushesF {w : World} {ops : Array Oper} {o : Oper} {a : Act} {K : Act → World → Prop} {Q : Exit → Act → World → Prop} {E : Prop} (hgd : o.guard = none) (s x : Operand)
    (ho : o.op = .call { callee := .builtin .append, args := #[s, x], argTypes := #[47, 47] })
    (base : Nat) (v u : Value) (l m : List FieldL) (hs : a.eval s = v) (hown : OwnF w base v l) (hx : a.eval x = u) (hr : RbF w u m)
    (hl : l.length + m.length ≤ 1000000000000) (hbase : base ≤ w.heap.size)
    (h : ∀ v' w', OwnF w' base v' (l ++ m) → w.grownBy w' v.ownBlock → K (a.put o.dst v') w') : if Region.wanted o (yielded ops a.tmps) = true then Oper.wp Tryd.prog o a w K Q else E := by
  have hw : Region.wanted o (yielded ops a.tmps) = true := by simp [Region.wanted, hgd]
  rw [if_pos hw]
  exact wp_pushesF s x ho base v u l m hs hown hx hr hl hbase h
theorem push_aft {w w0 w4 : World} {v : Value} {l : List FieldL} (h0 : Aft w w0) (ho : OwnF w0 w.heap.size v l) (g4 : w0.grownBy w4 v.ownBlock) : Aft w w4 :=
  pushF_below h0.to ho g4 (Nat.le_refl _) h0.size

end Go.Proofs.YtmlnboibclfmcaaDoor
