/-
  The packer's Block: rows, one behind the other.
-/
import Derived.Test.YtmlnboibclfmcaaDoorPackS
import Derived.Test.YtmlnboibclfmcaaDoorTblP
import Derived.Deep.DeepCutAuto
import Derived.Deep.CutBlock
namespace Go.Proofs.YtmlnboibclfmcaaDoor
open Go.RowKit
set_option linter.unusedVariables false

structure RowL where
  f : FieldL
  how : Int
/-- The slice v of rows can be read: they are l. -/
def RbW (w : World) (v : Value) (l : List RowL) : Prop :=
  (v = .slice none 0 0 ∧ l = []) ∨ ∃ b off cap, v = .slice (some ⟨b, off, none⟩) l.length cap ∧ l.length ≤ cap ∧ cap ≤ maxLen ∧ b < w.heap.size ∧ ∀ i (h : i < l.length), w.cell? ⟨b, off + i * 3, none⟩ = some (strV l[i].f.1) ∧ w.cell? ⟨b, off + i * 3 + 1, none⟩ = some (strV l[i].f.2) ∧ w.cell? ⟨b, off + i * 3 + 2, none⟩ = some (.int .i64 l[i].how)
theorem RbW.open {w : World} {v : Value} {l : List RowL} (h : RbW w v l) : ∃ (a : Option Addr) (cap b off : Nat), v = .slice a l.length cap ∧ l.length ≤ cap ∧ cap ≤ maxLen ∧ ∀ i (h : i < l.length), a = some ⟨b, off, none⟩ ∧ b < w.heap.size ∧ w.cell? ⟨b, off + i * 3, none⟩ = some (strV l[i].f.1) ∧ w.cell? ⟨b, off + i * 3 + 1, none⟩ = some (strV l[i].f.2) ∧ w.cell? ⟨b, off + i * 3 + 2, none⟩ = some (.int .i64 l[i].how) := by
  rcases h with ⟨rfl, rfl⟩ | ⟨b, off, cap, rfl, h1, h2, h3, h4⟩
  · exact ⟨none, 0, 0, 0, rfl, by simp, Nat.zero_le _, fun i h => by simp at h⟩
  · exact ⟨_, cap, b, off, rfl, h1, h2, fun i hi => ⟨rfl, h3, h4 i hi⟩⟩
theorem RbW.aft {w w' : World} {v : Value} {l : List RowL} (h : RbW w v l) (ha : Aft w w') : RbW w' v l := by
  rcases h with h | ⟨b, off, cap, a, b1, b2, c, d⟩
  · exact Or.inl h
  · refine Or.inr ⟨b, off, cap, a, b1, b2, Nat.lt_of_lt_of_le c ha.size, fun i hi => ?_⟩
    rw [Below.cell ha.to (p := ⟨b, off + i * 3, none⟩) c, Below.cell ha.to (p := ⟨b, off + i * 3 + 1, none⟩) c, Below.cell ha.to (p := ⟨b, off + i * 3 + 2, none⟩) c]
    exact d i hi

/-- One row: its bytes, and the table behind it. -/
def rowB (most : Int) (l : List FieldL) (r : RowL) : List UInt8 × List FieldL :=
  if (findF l r.f).2 = true ∧ r.how ≠ 3 then (pintL 7 128 (findF l r.f).1.toNat, l)
  else if r.how = 1 then (writL (findF l r.f).1.toNat 6 64 r.f.1 r.f.2, addF most r.f l)
  else if r.how = 3 then (writL (findF l r.f).1.toNat 4 16 r.f.1 r.f.2, l)
  else (writL (findF l r.f).1.toNat 4 0 r.f.1 r.f.2, l)
def rowsB (most : Int) : List UInt8 × List FieldL → List RowL → List UInt8 × List FieldL
  | s, [] => s
  | s, r :: rs => rowsB most (s.1 ++ (rowB most s.2 r).1, (rowB most s.2 r).2) rs
theorem rowsB_snoc (most : Int) : ∀ (rs : List RowL) (s : List UInt8 × List FieldL) (r : RowL), rowsB most s (rs ++ [r]) = ((rowsB most s rs).1 ++ (rowB most (rowsB most s rs).2 r).1, (rowB most (rowsB most s rs).2 r).2)
  | [], s, r => rfl
  | x :: rs, s, r => by
    rw [List.cons_append]
    exact rowsB_snoc most rs _ r
theorem Own.pk {w : World} {base B gp g : Nat} {v vo vk : Value} {b : List UInt8} {l : List FieldL} {most : Int} {told : Bool} {least : Int} (ho : Own w base v b) (h : Pk w B gp g vo vk l most told least) : ∀ k, v.ownBlock = some k → ¬ PP gp g vo k := by
  intro k hk hp
  have hb : ∃ cur, w.heap[k]? = some (.cells cur 5 (0, 0)) := by
    rcases ho.2 with ⟨rfl, _⟩ | ⟨g', cap, cur, rfl, _, h1, _⟩
    · cases hk
    · injection hk with hk
      rw [← hk]
      exact ⟨cur, h1⟩
  obtain ⟨cur, hb⟩ := hb
  rcases hp with rfl | rfl | hp
  · rw [h.p] at hb
    injection hb with hb
    injection hb with _ hb
    exact absurd hb (by decide)
  · rw [h.t.blk] at hb
    injection hb with hb
    injection hb with _ hb
    exact absurd hb (by decide)
  · obtain ⟨cur2, h2⟩ := h.t.own.blk hp
    rw [h2] at hb
    injection hb with hb
    injection hb with _ hb
    exact absurd hb (by decide)
theorem Own.chg {p : Nat → Prop} {w w' : World} {base : Nat} {v : Value} {l : List UInt8} (h : Own w base v l) (hc : Chg p w w') (hp : ∀ k, v.ownBlock = some k → ¬ p k) : Own w' base v l := by
  obtain ⟨h1, h2⟩ := id h
  refine ⟨h1, ?_⟩
  rcases h2 with h2 | ⟨g, cap, cur, rfl, b, c, d⟩
  · exact Or.inl h2
  · exact Or.inr ⟨g, cap, cur, rfl, b, (hc.block g (h.lt g rfl).2 (hp g rfl)).trans c, d⟩
/-- A row of the loop's own. -/
def RB3 (w : World) (g : Nat) (n v : ByteArray) (how : Int) : Prop := w.heap[g]? = some (.cells #[.string n, .string v, .int .i64 how] 57 (0, 0))
theorem RB3.cells {w : World} {g : Nat} {n v : ByteArray} {how : Int} (h : RB3 w g n v how) : w.cell? ⟨g, 0, none⟩ = some (.string n) ∧ w.cell? ⟨g, 1, none⟩ = some (.string v) ∧ w.cell? ⟨g, 2, none⟩ = some (.int .i64 how) := by
  unfold RB3 at h
  refine ⟨?_, ?_, ?_⟩ <;> rw [cell_of_row w g _ _ _ (0, 0) h] <;> rfl
theorem RB3.aft {w w' : World} {g : Nat} {n v : ByteArray} {how : Int} (h : RB3 w g n v how) (ha : Aft w w') : RB3 w' g n v how := by
  have hl : g < w.heap.size := by
    rcases Nat.lt_or_ge g w.heap.size with h1 | h1
    · exact h1
    · unfold RB3 at h; rw [Array.getElem?_eq_none h1] at h; cases h
  unfold RB3 at h ⊢
  rw [Below.block ha.to g hl]
  exact h

def sumR (l : List RowL) : Nat := (l.map fun r => r.f.1.length + r.f.2.length + 32).sum
theorem sumR_cons (r : RowL) (l : List RowL) : sumR (r :: l) = r.f.1.length + r.f.2.length + 32 + sumR l := by simp [sumR]
theorem sumR_append (a b : List RowL) : sumR (a ++ b) = sumR a + sumR b := by simp [sumR]
theorem sumR_take (l : List RowL) (k : Nat) : sumR (l.take k) ≤ sumR l := by
  have : sumR (l.take k) + sumR (l.drop k) = sumR l := by rw [← sumR_append, List.take_append_drop]
  omega
theorem sumR_len (l : List RowL) : 32 * l.length ≤ sumR l := by
  induction l with
  | nil => simp [sumR]
  | cons f l ih => rw [sumR_cons, List.length_cons]; omega
theorem sumR_mem {r : RowL} {l : List RowL} (h : r ∈ l) : r.f.1.length + r.f.2.length + 32 ≤ sumR l := by
  induction l with
  | nil => simp at h
  | cons g l ih =>
    rw [sumR_cons]
    rcases List.mem_cons.1 h with rfl | h
    · omega
    · have := ih h; omega
theorem findF_bd (l : List FieldL) (f : FieldL) : 0 ≤ (findF l f).1 ∧ (findF l f).1 ≤ 61 + (l.length : Int) := by
  rcases find_cases l f with h | ⟨j, hj, h, -⟩ | ⟨j, x, hj⟩
  · rw [h]; exact ⟨Int.le_refl _, by omega⟩
  · rw [h]; exact ⟨by show (0 : Int) ≤ (j : Int) + 1; omega, by show (j : Int) + 1 ≤ _; omega⟩
  · first
      | (have h := hj.2.1; rw [h]; exact ⟨by show (0 : Int) ≤ (j : Int) + 1; omega, by show (j : Int) + 1 ≤ _; have := hj.1; omega⟩)
      | (obtain ⟨h1, h2, -⟩ := hj; rw [h2]; exact ⟨by show (0 : Int) ≤ (j : Int) + 1; omega, by show (j : Int) + 1 ≤ _; omega⟩)
theorem rowB_len (most : Int) (l : List FieldL) (r : RowL) : (rowB most l r).1.length ≤ r.f.1.length + r.f.2.length + 32 := by
  have h1 := pintL_len 7 128 (findF l r.f).1.toNat
  have h2 := writL_len (findF l r.f).1.toNat 6 64 r.f.1 r.f.2
  have h3 := writL_len (findF l r.f).1.toNat 4 16 r.f.1 r.f.2
  have h4 := writL_len (findF l r.f).1.toNat 4 0 r.f.1 r.f.2
  unfold rowB
  split
  · simp only; omega
  · split
    · simp only; omega
    · split
      · simp only; omega
      · simp only; omega
theorem rowB_tab (most : Int) (hm : 0 ≤ most) (l : List FieldL) (r : RowL) (h : (sumF l : Int) ≤ most) : (sumF (rowB most l r).2 : Int) ≤ most := by
  unfold rowB
  split
  · exact h
  · split
    · exact addF_le hm
    · split <;> exact h

end Go.Proofs.YtmlnboibclfmcaaDoor
