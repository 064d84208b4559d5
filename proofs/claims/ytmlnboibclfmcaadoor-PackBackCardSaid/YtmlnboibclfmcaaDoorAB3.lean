/-
  The law's own copy of an ask; the next ask.
-/
import Derived.Test.YtmlnboibclfmcaaDoorArgNR
import Derived.Test.YtmlnboibclfmcaaDoorPackL
import Derived.Test.YtmlnboibclfmcaaDoorUnBlk
namespace Go.Proofs.YtmlnboibclfmcaaDoor
open Go.ChangeShapes Go.WideShapes Go.ChangeAt Go.RowKit
set_option linter.unusedVariables false

/-- The law's own copy of an ask. -/
def AB3 (w : World) (g : Nat) (kd nn : Int) (u : Value) : Prop := w.heap[g]? = some (.cells #[.int .i64 kd, .int .i64 nn, u] 68 (0, 0))
theorem AB3.lt {w : World} {g : Nat} {kd nn : Int} {u : Value} (h : AB3 w g kd nn u) : g < w.heap.size := lt_of_heap h
theorem AB3.chg {p : Nat → Prop} {w w' : World} {g : Nat} {kd nn : Int} {u : Value} (h : AB3 w g kd nn u) (hc : Chg p w w') (hp : ¬ p g) : AB3 w' g kd nn u := (hc.block g h.lt hp).trans h
theorem AB3.aft {w w' : World} {g : Nat} {kd nn : Int} {u : Value} (h : AB3 w g kd nn u) (a : Aft w w') : AB3 w' g kd nn u := h.chg (Chg.of_aft (p := fun _ => False) a) (fun h => h)
theorem AB3.cells {w : World} {g : Nat} {kd nn : Int} {u : Value} (h : AB3 w g kd nn u) : w.cell? ⟨g, 0, none⟩ = some (.int .i64 kd) ∧ w.cell? ⟨g, 1, none⟩ = some (.int .i64 nn) ∧ w.cell? ⟨g, 2, none⟩ = some u := by
  refine ⟨?_, ?_, ?_⟩ <;> rw [cell_of_row w g _ _ _ (0, 0) h] <;> rfl
theorem AB3.notP {w : World} {B gp g gx : Nat} {vo vk u : Value} {kd nn : Int} {l : List FieldL} {most least : Int} {told : Bool} (h : AB3 w gx kd nn u) (hp : Pk w B gp g vo vk l most told least) : ¬ PP gp g vo gx := by
  unfold AB3 at h
  intro e
  rcases e with rfl | rfl | e
  · rw [hp.p] at h
    injection h with h
    injection h with _ h
    exact absurd h (by decide)
  · rw [hp.t.blk] at h
    injection h with h
    injection h with _ h
    exact absurd h (by decide)
  · obtain ⟨cur2, h2⟩ := hp.t.own.blk e
    rw [h2] at h
    injection h with h
    injection h with _ h
    exact absurd h (by decide)
theorem AB3.notU {w : World} {B gu g gx : Nat} {vo vk u : Value} {kd nn : Int} {l : List FieldL} {most top list : Int} {bad : Bool} (h : AB3 w gx kd nn u) (hu : Un w B gu g vo vk l most top list bad) : ¬ PU gu g vo gx := by
  unfold AB3 at h
  intro e
  rcases e with rfl | rfl | e
  · rw [hu.p] at h
    injection h with h
    injection h with _ h
    exact absurd h (by decide)
  · rw [hu.t.blk] at h
    injection h with h
    injection h with _ h
    exact absurd h (by decide)
  · obtain ⟨cur2, h2⟩ := hu.t.own.blk e
    rw [h2] at h
    injection h with h
    injection h with _ h
    exact absurd h (by decide)
theorem RbK.next {w wr : World} {L : List AskR} {va : Option Addr} {vb voff k : Nat} (hcell : ∀ i (h : i < L.length), va = some ⟨vb, voff, none⟩ ∧ vb < w.heap.size ∧ w.cell? ⟨vb, voff + i * 3, none⟩ = some (.int .i64 L[i].kind) ∧ w.cell? ⟨vb, voff + i * 3 + 1, none⟩ = some (.int .i64 L[i].n) ∧ ∃ u, w.cell? ⟨vb, voff + i * 3 + 2, none⟩ = some u ∧ RbW w u L[i].rows) (a : Aft w wr) (hlt : k < L.length) : va = some ⟨vb, voff, none⟩ ∧ ∃ (kd nn : Int) (rows : List RowL) (ra : Option Addr) (rc : Nat), L[k].kind = kd ∧ L[k].n = nn ∧ L[k].rows = rows ∧ wr.cell? ⟨vb, voff + k * 3, none⟩ = some (.int .i64 kd) ∧ wr.cell? ⟨vb, voff + k * 3 + 1, none⟩ = some (.int .i64 nn) ∧ wr.cell? ⟨vb, voff + k * 3 + 2, none⟩ = some (.slice ra rows.length rc) ∧ rows.length ≤ rc ∧ rc ≤ maxLen ∧ RbW w (.slice ra rows.length rc) rows := by
  obtain ⟨h1, hvb, c0, c1, u, c2, hr⟩ := hcell k hlt
  obtain ⟨ra, rc, rb, roff, rfl, m1, m2, -⟩ := hr.open
  exact ⟨h1, _, _, _, ra, rc, rfl, rfl, rfl, (Below.cell a.to (p := ⟨vb, voff + k * 3, none⟩) hvb).trans c0, (Below.cell a.to (p := ⟨vb, voff + k * 3 + 1, none⟩) hvb).trans c1, (Below.cell a.to (p := ⟨vb, voff + k * 3 + 2, none⟩) hvb).trans c2, m1, m2, hr⟩
end Go.Proofs.YtmlnboibclfmcaaDoor
