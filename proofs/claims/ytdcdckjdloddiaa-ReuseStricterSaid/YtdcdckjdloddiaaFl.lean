/-
  Slices of fields that can be read, blocks of fields, lists of fields that a call makes and adds to.
-/
import Derived.Test.YtdcdckjdloddiaaStrs
namespace Go.Proofs.Ytdcdckjdloddiaa
open Go.RowKit

abbrev FieldL := List UInt8 × List UInt8
/-- The slice v of fields can be read: they are l. -/
def RbF (w : World) (v : Value) (l : List FieldL) : Prop :=
  (v = .slice none 0 0 ∧ l = []) ∨ ∃ b off cap, v = .slice (some ⟨b, off, none⟩) l.length cap ∧ l.length ≤ cap ∧ cap ≤ maxLen ∧ b < w.heap.size ∧ ∀ i (h : i < l.length), w.cell? ⟨b, off + i * 2, none⟩ = some (strV l[i].1) ∧ w.cell? ⟨b, off + i * 2 + 1, none⟩ = some (strV l[i].2)
theorem RbF.aft {w w' : World} {v : Value} {l : List FieldL} (h : RbF w v l) (ha : Aft w w') : RbF w' v l := by
  rcases h with h | ⟨b, off, cap, a, b1, b2, c, d⟩
  · exact Or.inl h
  · refine Or.inr ⟨b, off, cap, a, b1, b2, Nat.lt_of_lt_of_le c ha.size, fun i hi => ?_⟩
    rw [Below.cell ha.to (p := ⟨b, off + i * 2, none⟩) c, Below.cell ha.to (p := ⟨b, off + i * 2 + 1, none⟩) c]
    exact d i hi
theorem RbF.open {w : World} {v : Value} {l : List FieldL} (h : RbF w v l) : ∃ (a : Option Addr) (cap : Nat) (b off : Nat), v = .slice a l.length cap ∧ l.length ≤ cap ∧ cap ≤ maxLen ∧ (l ≠ [] → a = some ⟨b, off, none⟩) ∧ (l ≠ [] → b < w.heap.size) ∧ ∀ i (h : i < l.length), w.cell? ⟨b, off + i * 2, none⟩ = some (strV l[i].1) ∧ w.cell? ⟨b, off + i * 2 + 1, none⟩ = some (strV l[i].2) := by
  rcases h with ⟨rfl, rfl⟩ | ⟨b, off, cap, rfl, h1, h2, h3, h4⟩
  · exact ⟨none, 0, 0, 0, rfl, by simp, Nat.zero_le _, fun h => absurd rfl h, fun h => absurd rfl h, fun i h => by simp at h⟩
  · exact ⟨_, cap, b, off, rfl, h1, h2, fun _ => rfl, fun _ => h3, h4⟩
def fv (l : List FieldL) : List Value := l.flatMap fun f => [strV f.1, strV f.2]
theorem fv_cons (f : FieldL) (l : List FieldL) : fv (f :: l) = strV f.1 :: strV f.2 :: fv l := by simp [fv]
theorem fv_append (a b : List FieldL) : fv (a ++ b) = fv a ++ fv b := by simp [fv]
theorem fv_len : ∀ l : List FieldL, (fv l).length = l.length * 2
  | [] => rfl
  | f :: l => by rw [fv_cons, List.length_cons, List.length_cons, fv_len l, List.length_cons]; omega
theorem fv_get : ∀ (l : List FieldL) (i : Nat) (h : i < l.length), (fv l)[i * 2]? = some (strV l[i].1) ∧ (fv l)[i * 2 + 1]? = some (strV l[i].2)
  | f :: l, 0, _ => by rw [fv_cons]; exact ⟨rfl, rfl⟩
  | f :: l, i + 1, h => by
    rw [fv_cons, show (i + 1) * 2 = (i * 2) + 1 + 1 by omega]
    exact fv_get l i (by simpa using h)
theorem fv_set : ∀ (l : List FieldL) (i : Nat) (f : FieldL), i < l.length → ((fv l).set (i * 2) (strV f.1)).set (i * 2 + 1) (strV f.2) = fv (l.set i f)
  | g :: l, 0, f, _ => by rw [List.set_cons_zero, fv_cons, fv_cons]; rfl
  | g :: l, i + 1, f, h => by
    rw [List.set_cons_succ, fv_cons, fv_cons, ← fv_set l i f (by simpa using h), show (i + 1) * 2 = (i * 2) + 1 + 1 by omega]
    rfl
theorem fv_rep (n : Nat) : fv (List.replicate n ([], [])) = List.replicate (n * 2) (strV []) := by
  induction n with
  | zero => rfl
  | succ n ih =>
    rw [List.replicate_succ, fv_cons, ih, show (n + 1) * 2 = n * 2 + 1 + 1 by omega, List.replicate_succ, List.replicate_succ]
theorem fv_one (l : List FieldL) : ∀ u ∈ fv l, u.oneCell' = true := by
  intro u hu
  unfold fv at hu
  obtain ⟨f, _, h⟩ := List.mem_flatMap.1 hu
  simp at h
  rcases h with rfl | rfl <;> rfl
/-- Block g is the fields l. -/
def FB (w : World) (g : Nat) (l : List FieldL) : Prop := w.heap[g]? = some (.cells (fv l).toArray 38 (0, 0))
theorem FB.cell {w : World} {g : Nat} {l : List FieldL} (h : FB w g l) {i : Nat} (hi : i < l.length) : w.cell? ⟨g, i * 2, none⟩ = some (strV l[i].1) ∧ w.cell? ⟨g, i * 2 + 1, none⟩ = some (strV l[i].2) := by
  obtain ⟨h1, h2⟩ := fv_get l i hi
  rw [cell_of_row w g (i * 2) _ _ (0, 0) h, cell_of_row w g (i * 2 + 1) _ _ (0, 0) h]
  simpa using ⟨h1, h2⟩
theorem FB.free {w : World} {g : Nat} {l : List FieldL} (h : FB w g l) (j : Nat) : w.frozen? ⟨g, j, none⟩ = false := frozen_of_row w g j _ _ h
theorem FB.put {w : World} {g : Nat} {l : List FieldL} (h : FB w g l) {i : Nat} (hi : i < l.length) (f : FieldL) : FB ((w.setCell ⟨g, i * 2, none⟩ (strV f.1)).setCell ⟨g, i * 2 + 1, none⟩ (strV f.2)) g (l.set i f) := by
  unfold FB
  have h1 := heap_setCell_same w g (i * 2) _ _ (strV f.1) h
  rw [heap_setCell_same _ g (i * 2 + 1) _ _ (strV f.2) h1, ← fv_set l i f hi]
  simp
theorem FB.lt {w : World} {g : Nat} {l : List FieldL} (h : FB w g l) : g < w.heap.size := by
  rcases Nat.lt_or_ge g w.heap.size with h1 | h1
  · exact h1
  · unfold FB at h; rw [Array.getElem?_eq_none h1] at h; cases h
theorem FB.rb {w : World} {g : Nat} {l : List FieldL} (h : FB w g l) (hl : l.length ≤ maxLen) (n : Nat) (hn : n ≤ l.length) : RbF w (.slice (some ⟨g, 0, none⟩) n l.length) (l.take n) := by
  refine Or.inr ⟨g, 0, l.length, by rw [List.length_take, Nat.min_eq_left hn], by rw [List.length_take]; omega, hl, h.lt, fun i hi => ?_⟩
  rw [List.length_take] at hi
  have := h.cell (i := i) (by omega)
  rw [Nat.zero_add]
  simpa using this
theorem infoF : (Try.prog.info? 38).map (fun i => (i.zero, i.size, i.bytes)) = some (some (.agg #[.string ⟨#[]⟩, .string ⟨#[]⟩]), 2, 32) := by kernel_rfl

def OwnF (w : World) (base : Nat) (v : Value) (l : List FieldL) : Prop := w.ownsRow base 38 2 v l.length (fv l)
theorem OwnF.nil (w : World) (base : Nat) : OwnF w base (.slice none 0 0) [] := World.ownsRow_nil _ _ _ _
theorem OwnF.lt {w : World} {base : Nat} {v : Value} {l : List FieldL} (h : OwnF w base v l) : ∀ k, v.ownBlock = some k → base ≤ k ∧ k < w.heap.size := World.ownsRow.lt h
theorem OwnF.aft {w w' : World} {base : Nat} {v : Value} {l : List FieldL} (h : OwnF w base v l) (ha : Aft w w') : OwnF w' base v l := by
  obtain ⟨h1, h2⟩ := h
  refine ⟨h1, ?_⟩
  rcases h2 with ⟨a, b⟩ | ⟨g, cap, cur, a, b, c, d⟩
  · exact Or.inl ⟨a, b⟩
  · refine Or.inr ⟨g, cap, cur, a, b, ?_, d⟩
    rw [Below.block ha g (by rcases Nat.lt_or_ge g w.heap.size with h | h; exact h; rw [Array.getElem?_eq_none h] at c; cases c)]
    exact c
theorem OwnF.base {w : World} {base base' : Nat} {v : Value} {l : List FieldL} (h : OwnF w base v l) (hb : base' ≤ base) : OwnF w base' v l := by
  obtain ⟨h1, h2⟩ := h
  refine ⟨h1, ?_⟩
  rcases h2 with h2 | ⟨g, cap, cur, a, b, c⟩
  · exact Or.inl h2
  · exact Or.inr ⟨g, cap, cur, a, by omega, c⟩
theorem OwnF.slice {w : World} {base : Nat} {v : Value} {l : List FieldL} (h : OwnF w base v l) : ∃ a k, v = .slice a l.length k ∧ l.length ≤ k ∧ k ≤ maxLen := by
  rcases h.2 with ⟨e, h⟩ | ⟨g, cap, cur, e, _, _, h1, h2, _⟩
  · exact ⟨none, 0, by rw [e, h], by omega, Nat.zero_le _⟩
  · exact ⟨_, _, e, h1, h2⟩
theorem OwnF.form {w : World} {base : Nat} {v : Value} {l : List FieldL} (h : OwnF w base v l) : ∃ (a : Option Addr) (g k : Nat), v = .slice a l.length k ∧ l.length ≤ k ∧ k ≤ maxLen ∧ (l ≠ [] → a = some ⟨g, 0, none⟩ ∧ g < w.heap.size) ∧ ∀ i (h : i < l.length), w.cell? ⟨g, i * 2, none⟩ = some (strV l[i].1) ∧ w.cell? ⟨g, i * 2 + 1, none⟩ = some (strV l[i].2) := by
  rcases id h.2 with ⟨e, h0⟩ | ⟨g, cap, cur, e, _, _, h1, h2, _⟩
  · have : l = [] := List.eq_nil_of_length_eq_zero h0
    subst this
    exact ⟨none, 0, 0, by rw [e]; rfl, by simp, Nat.zero_le _, fun h => absurd rfl h, fun i hi => by simp at hi⟩
  · refine ⟨_, g, cap, e, h1, h2, fun _ => ⟨rfl, (h.lt g (by rw [e]; rfl)).2⟩, fun i hi => ?_⟩
    subst e
    have hx := fun j (hj : j < 2) => World.ownsRow.cellAt h (i * 2 + j) (by omega)
    have hg := fv_get l i hi
    refine ⟨?_, ?_⟩
    · have := hx 0 (by omega)
      rw [Nat.add_zero] at this
      rw [this]
      exact hg.1
    · rw [hx 1 (by omega)]
      exact hg.2
theorem OwnF.rb {w : World} {base : Nat} {v : Value} {l : List FieldL} (h : OwnF w base v l) : RbF w v l := by
  rcases id h.2 with ⟨e, h0⟩ | ⟨g, cap, cur, e, _, _, h1, h2, _⟩
  · have : l = [] := List.eq_nil_of_length_eq_zero h0
    subst this
    exact Or.inl ⟨e, rfl⟩
  · refine Or.inr ⟨g, 0, cap, e, h1, h2, (h.lt g (by rw [e]; rfl)).2, fun i hi => ?_⟩
    subst e
    have hg := fv_get l i hi
    rw [Nat.zero_add, World.ownsRow.cellAt h (i * 2) (by omega), World.ownsRow.cellAt h (i * 2 + 1) (by omega)]
    exact hg
theorem wpList_pushF {w : World} {ops : Array Oper} {rest : List Oper} {o : Oper} {a : Act} {Q : Exit → Act → World → Prop} (hgd : o.guard = none) (s x : Operand)
    (ho : o.op = .call { callee := .builtin .append, args := #[s, x], argTypes := #[22, 22] })
    (base : Nat) (v : Value) (l : List FieldL) (hs : a.eval s = v) (hown : OwnF w base v l) (g : Nat) (c : Nat) (n : FieldL) (hx : a.eval x = .slice (some ⟨g, 0, none⟩) 1 c) (h0 : w.cell? ⟨g, 0, none⟩ = some (strV n.1)) (h1 : w.cell? ⟨g, 1, none⟩ = some (strV n.2))
    (hl : l.length + 1 ≤ 1000000000000) (hbase : base ≤ w.heap.size)
    (h : ∀ v' w', OwnF w' base v' (l ++ [n]) → w.grownBy w' v.ownBlock → wpList Try.prog ops Q rest (a.put o.dst v') w') : wpList Try.prog ops Q (o :: rest) a w := by
  obtain ⟨i0, hi, hz0, hz1, hz2⟩ := info_parts infoF
  refine wpList_append_own w hgd s x 22 ho base 38 i0 _ 2 32 Try.underlying22 hi hz0 hz1 hz2 rfl (by decide) v l.length (fv l) hs hown ⟨g, 0, none⟩ 1 c [strV n.1, strV n.2] hx rfl ?_ ?_ ?_ ?_ hbase ?_
  · intro j u hj
    match j, hj with
    | 0, hj => simp at hj; subst hj; exact h0
    | 1, hj => simp at hj; subst hj; exact h1
    | j + 2, hj => simp at hj
  · intro u hu
    simp at hu
    rcases hu with rfl | rfl <;> rfl
  · unfold maxLen; omega
  · omega
  · intro v' w' g1 g2 _
    refine h v' w' ?_ g2
    unfold OwnF
    have e : fv (l ++ [n]) = fv l ++ [strV n.1, strV n.2] := by simp [fv]
    rw [e, List.length_append]
    exact g1
theorem pushF_below {B base : Nat} {a w w' : World} {v : Value} {l : List FieldL} (h : Below B a w) (ho : OwnF w base v l) (hg : w.grownBy w' v.ownBlock) (hB : B ≤ base) (hb : base ≤ w.heap.size) : Below B a w' :=
  Below.grown h hg (by omega) (fun k hk => by have := (ho.lt k hk).1; omega)

end Go.Proofs.Ytdcdckjdloddiaa
