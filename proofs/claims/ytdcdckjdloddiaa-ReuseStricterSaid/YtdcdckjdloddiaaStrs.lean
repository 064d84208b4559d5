/-
  Slices of strings of the call's own.
-/
import Derived.Test.YtdcdckjdloddiaaBuf
namespace Go.Proofs.Ytdcdckjdloddiaa
open Go.RowKit

def strV (x : List UInt8) : Value := .string ⟨x.toArray⟩
def sv (l : List (List UInt8)) : List Value := l.map strV
theorem sv_len (l : List (List UInt8)) : (sv l).length = l.length := by simp [sv]
def OwnS (w : World) (base : Nat) (v : Value) (l : List (List UInt8)) : Prop := w.ownsRow base 9 1 v l.length (sv l)
theorem infoS : (Try.prog.info? 9).map (fun i => (i.zero, i.size, i.bytes)) = some (some (.string ⟨#[]⟩), 1, 16) := by kernel_rfl
theorem OwnS.nil (w : World) (base : Nat) : OwnS w base (.slice none 0 0) [] := World.ownsRow_nil _ _ _ _
theorem OwnS.lt {w : World} {base : Nat} {v : Value} {l : List (List UInt8)} (h : OwnS w base v l) : ∀ k, v.ownBlock = some k → base ≤ k ∧ k < w.heap.size := World.ownsRow.lt h
theorem OwnS.aft {w w' : World} {base : Nat} {v : Value} {l : List (List UInt8)} (h : OwnS w base v l) (ha : Aft w w') : OwnS w' base v l := by
  obtain ⟨h1, h2⟩ := h
  refine ⟨h1, ?_⟩
  rcases h2 with ⟨a, b⟩ | ⟨g, cap, cur, a, b, c, d⟩
  · exact Or.inl ⟨a, b⟩
  · refine Or.inr ⟨g, cap, cur, a, b, ?_, d⟩
    rw [Below.block ha g (by rcases Nat.lt_or_ge g w.heap.size with h | h; exact h; rw [Array.getElem?_eq_none h] at c; cases c)]
    exact c
theorem OwnS.far {w : World} {base : Nat} {v : Value} {l : List (List UInt8)} (h : OwnS w base v l) {p : Addr} (hp : p.block < base) (u : Value) : OwnS (w.setCell p u) base v l := by
  obtain ⟨h1, h2⟩ := h
  refine ⟨h1, ?_⟩
  rcases h2 with h2 | ⟨k, cap, cur, a, b, c, d⟩
  · exact Or.inl h2
  · refine Or.inr ⟨k, cap, cur, a, b, ?_, d⟩
    rw [heap_setCell_other w p k u (by omega)]
    exact c
theorem OwnS.base {w : World} {base base' : Nat} {v : Value} {l : List (List UInt8)} (h : OwnS w base v l) (hb : base' ≤ base) : OwnS w base' v l := by
  obtain ⟨h1, h2⟩ := h
  refine ⟨h1, ?_⟩
  rcases h2 with h2 | ⟨g, cap, cur, a, b, c⟩
  · exact Or.inl h2
  · exact Or.inr ⟨g, cap, cur, a, by omega, c⟩
theorem OwnS.slice {w : World} {base : Nat} {v : Value} {l : List (List UInt8)} (h : OwnS w base v l) : ∃ a k, v = .slice a l.length k ∧ l.length ≤ k ∧ k ≤ maxLen := by
  rcases h.2 with ⟨e, h⟩ | ⟨g, cap, cur, e, _, _, h1, h2, _⟩
  · exact ⟨none, 0, by rw [e, h], by omega, Nat.zero_le _⟩
  · exact ⟨_, _, e, h1, h2⟩
theorem OwnS.form {w : World} {base : Nat} {v : Value} {l : List (List UInt8)} (h : OwnS w base v l) : ∃ (a : Option Addr) (g k : Nat), v = .slice a l.length k ∧ l.length ≤ k ∧ k ≤ maxLen ∧ (l ≠ [] → a = some ⟨g, 0, none⟩ ∧ g < w.heap.size) ∧ ∀ i (h : i < l.length), w.cell? ⟨g, i, none⟩ = some (strV l[i]) := by
  rcases id h.2 with ⟨e, h0⟩ | ⟨g, cap, cur, e, _, _, h1, h2, _⟩
  · have : l = [] := List.eq_nil_of_length_eq_zero h0
    subst this
    exact ⟨none, 0, 0, by rw [e]; rfl, by simp, Nat.zero_le _, fun h => absurd rfl h, fun i hi => by simp at hi⟩
  · refine ⟨_, g, cap, e, h1, h2, fun _ => ⟨rfl, (h.lt g (by rw [e]; rfl)).2⟩, fun i hi => ?_⟩
    subst e
    have hx := World.ownsRow.cellAt h i (by omega)
    rw [hx]
    unfold sv
    rw [List.getElem?_map, List.getElem?_eq_getElem hi]
    rfl
theorem wpList_pushS {w : World} {ops : Array Oper} {rest : List Oper} {o : Oper} {a : Act} {Q : Exit → Act → World → Prop} (hgd : o.guard = none) (s x : Operand)
    (ho : o.op = .call { callee := .builtin .append, args := #[s, x], argTypes := #[55, 55] })
    (base : Nat) (v : Value) (l : List (List UInt8)) (hs : a.eval s = v) (hown : OwnS w base v l) (ad : Addr) (c : Nat) (n : List UInt8) (hx : a.eval x = .slice (some ad) 1 c) (hc : w.cell? ad = some (strV n))
    (hl : l.length + 1 ≤ 8796093022208) (hbase : base ≤ w.heap.size)
    (h : ∀ v' w', OwnS w' base v' (l ++ [n]) → w.grownBy w' v.ownBlock → wpList Try.prog ops Q rest (a.put o.dst v') w') : wpList Try.prog ops Q (o :: rest) a w := by
  obtain ⟨i0, hi, hz0, hz1, hz2⟩ := info_parts infoS
  refine wpList_append_own w hgd s x 55 ho base 9 i0 (.string ⟨#[]⟩) 1 16 Try.underlying55 hi hz0 hz1 hz2 rfl (by decide) v l.length (sv l) hs hown ad 1 c [strV n] hx rfl ?_ ?_ ?_ ?_ hbase ?_
  · intro j u hj
    match j, hj with
    | 0, hj =>
      simp at hj
      subst hj
      rw [show ad.add 0 = ad by simp [Addr.add]]
      exact hc
    | j + 1, hj => simp at hj
  · intro u hu
    simp at hu
    subst hu
    rfl
  · unfold maxLen; omega
  · omega
  · intro v' w' h1 h2 _
    refine h v' w' ?_ h2
    unfold OwnS sv
    rw [List.map_append, List.length_append]
    exact h1
theorem pushS_below {B base : Nat} {a w w' : World} {v : Value} {l : List (List UInt8)} (h : Below B a w) (ho : OwnS w base v l) (hg : w.grownBy w' v.ownBlock) (hB : B ≤ base) (hb : base ≤ w.heap.size) : Below B a w' :=
  Below.grown h hg (by omega) (fun k hk => by have := (ho.lt k hk).1; omega)

end Go.Proofs.Ytdcdckjdloddiaa
