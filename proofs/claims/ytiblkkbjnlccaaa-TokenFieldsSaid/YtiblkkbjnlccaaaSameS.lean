/-
  The walk of reservoirbook.Same at strings.
-/
import Derived.Test.YtiblkkbjnlccaaaStrs
namespace Go.Proofs.Ytiblkkbjnlccaaa
open Go.RowKit

/-- The slice v of strings can be read: its elements are l. -/
def RbS (w : World) (v : Value) (l : List (List UInt8)) : Prop :=
  (v = .slice none 0 0 ∧ l = []) ∨ ∃ b off cap, v = .slice (some ⟨b, off, none⟩) l.length cap ∧ l.length ≤ cap ∧ cap ≤ maxLen ∧ b < w.heap.size ∧ ∀ i (h : i < l.length), w.cell? ⟨b, off + i, none⟩ = some (strV l[i])
theorem RbS.aft {w w' : World} {v : Value} {l : List (List UInt8)} (h : RbS w v l) (ha : Aft w w') : RbS w' v l := by
  rcases h with h | ⟨b, off, cap, a, b1, b2, c, d⟩
  · exact Or.inl h
  · refine Or.inr ⟨b, off, cap, a, b1, b2, Nat.lt_of_lt_of_le c ha.size, fun i hi => ?_⟩
    rw [Below.cell ha.to (p := ⟨b, off + i, none⟩) c]
    exact d i hi
theorem OwnS.rb {w : World} {base : Nat} {v : Value} {l : List (List UInt8)} (h : OwnS w base v l) : RbS w v l := by
  rcases id h.2 with ⟨e, h0⟩ | ⟨g, cap, cur, e, _, _, h1, h2, _⟩
  · exact Or.inl ⟨e, List.eq_nil_of_length_eq_zero h0⟩
  · refine Or.inr ⟨g, 0, cap, e, h1, h2, (h.lt g (by rw [e]; rfl)).2, fun i hi => ?_⟩
    subst e
    have hx := World.ownsRow.cellAt h i (by omega)
    rw [show (0 : Nat) + i = i by omega, hx]
    unfold sv
    rw [List.getElem?_map, List.getElem?_eq_getElem hi]
    rfl
theorem RbS.new (w : World) (l : List (List UInt8)) (hl : l.length ≤ 1000 := by decide) : RbS (w.alloc (.cells (sv l).toArray 9)) (.slice (some ⟨w.heap.size, 0, none⟩) l.length l.length) l := by
  refine Or.inr ⟨w.heap.size, 0, l.length, rfl, Nat.le_refl _, by unfold maxLen; omega, by simp, fun i hi => ?_⟩
  rw [cell_of_row (w.alloc (.cells (sv l).toArray 9)) w.heap.size (0 + i) _ _ (0, 0) (heap_alloc_new w _)]
  simp [sv, hi]
theorem RbS.open {w : World} {v : Value} {l : List (List UInt8)} (h : RbS w v l) : ∃ (a : Option Addr) (cap : Nat) (b off : Nat), v = .slice a l.length cap ∧ l.length ≤ maxLen ∧ (l ≠ [] → a = some ⟨b, off, none⟩) ∧ (l ≠ [] → b < w.heap.size) ∧ ∀ i (h : i < l.length), w.cell? ⟨b, off + i, none⟩ = some (strV l[i]) := by
  rcases h with ⟨rfl, rfl⟩ | ⟨b, off, cap, rfl, h1, h2, h3, h4⟩
  · exact ⟨none, 0, 0, 0, rfl, by simp, fun h => absurd rfl h, fun h => absurd rfl h, fun i h => by simp at h⟩
  · exact ⟨_, cap, b, off, rfl, Nat.le_trans h1 h2, fun _ => rfl, fun _ => h3, h4⟩
theorem sameS_take {l1 l2 : List (List UInt8)} (hl : l1.length = l2.length) {k : Nat} (h : l1.take k = l2.take k) (hk : k < l1.length) (he : l1[k] = l2[k]'(by omega)) : l1.take (k + 1) = l2.take (k + 1) := by
  rw [List.take_succ_eq_append_getElem hk, List.take_succ_eq_append_getElem (by omega), h, he]

set_option maxHeartbeats 1000000 in
theorem sameS_any (v1 v2 : Value) (l1 l2 : List (List UInt8)) (w : World) (h1 : RbS w v1 l1) (h2 : RbS w v2 l2) :
    Calls Try.prog 12 #[v1, v2] w fun e w' => e = .returned (.bool (l1 == l2)) ∧ Aft w w' := by
  obtain ⟨a1, c1, b1, o1, rfl, m1, p1, q1, r1⟩ := h1.open
  obtain ⟨a2, c2, b2, o2, rfl, m2, p2, q2, r2⟩ := h2.open
  unfold maxLen at m1 m2
  clear h1 h2
  by_cases hl : l1.length = l2.length
  · have hb : ((l1.length : Int) != (l2.length : Int)) = false := by rw [bne_eq_false_iff_eq]; omega
    have HL := Lib.hid hl
    have hl1 : l1.length ≤ l2.length := by omega
    have hl2 : l2.length ≤ l1.length := by omega
    clear hl
    go_enter Try.func12, Try.ntmps12
    go_wp2_with fail
    go_loopw [5] (fun v wr => ∃ k : Nat, k ≤ l1.length ∧ v = .int .i64 (k : Int) ∧ Hid (l1.take k = l2.take k) ∧ Aft w wr) (fun v _ => l1.length - (intOf v).toNat)
    case atStart => exact ⟨0, by omega, by go_num, Lib.hid rfl, Aft.refl _⟩
    case round =>
      obtain ⟨k, hk, rfl, HT, hwr⟩ := hrel
      by_cases hlt : k < l1.length
      · have ne1 : l1 ≠ [] := by intro e; rw [e] at hlt; simp at hlt
        have ne2 : l2 ≠ [] := by intro e; have := congrArg List.length e; rw [List.length_nil] at this; omega
        have x1 : wr.cell? ⟨b1, o1 + k, none⟩ = some (strV l1[k]) := by
          rw [Below.cell hwr.to (p := ⟨b1, o1 + k, none⟩) (q1 ne1)]; exact r1 k hlt
        have x2 : wr.cell? ⟨b2, o2 + k, none⟩ = some (strV (l2[k]'(by omega))) := by
          rw [Below.cell hwr.to (p := ⟨b2, o2 + k, none⟩) (q2 ne2)]; exact r2 k (by omega)
        obtain rfl := p1 ne1
        obtain rfl := p2 ne2
        clear p1 p2 q1 q2 r1 r2 ne1 ne2
        have i1 : (k : Int) < (l1.length : Int) := by omega
        have i2 : (k : Int) < (l2.length : Int) := by omega
        unfold strV at x1 x2
        by_cases he : l1[k] = l2[k]'(by omega)
        · have hst := sameS_take HL.out HT.out hlt he
          have HST := Lib.hid hst
          rw [he] at x1
          generalize l2[k]'(by omega) = y at x1 x2
          clear hst he
          go_wp2_with fail
          go_quiet (fail)
          go_wp2_with fail
          go_roundw
          case rel => exact ⟨k + 1, by omega, by go_num, HST, hwr.drewN _⟩
          case measure => simp [intOf]; omega
        · have hne : (l1 == l2) = false := by
            rw [beq_eq_false_iff_ne]
            intro e
            subst e
            exact he rfl
          have HNE := Lib.hid hne
          generalize hz : l2[k]'(by omega) = z at x2 he
          generalize hy : l1[k] = y at x1 he
          have hbe : (y != z) = true := by
            rw [bne_iff_ne]
            exact he
          have hbe2 : (y == z) = false := by
            rw [beq_eq_false_iff_ne]
            exact he
          clear hne he hz hy
          go_wp2_with fail
          go_quiet (fail)
          go_wp2_with fail
          go_ret
          rw [HNE.out]
          exact ⟨rfl, hwr.drewN _⟩
      · have he : l1 = l2 := by
          have := HT.out
          rw [List.take_of_length_le (by omega), List.take_of_length_le (by omega)] at this
          exact this
        have hbe : (l1 == l2) = true := by rw [he]; simp
        have HBE := Lib.hid hbe
        clear he hbe
        go_wp2_with fail
        go_ret
        rw [HBE.out]
        exact ⟨rfl, hwr⟩
  · have hb : ((l1.length : Int) != (l2.length : Int)) = true := by rw [bne_iff_ne]; omega
    have hne : (l1 == l2) = false := by
      rw [beq_eq_false_iff_ne]
      intro e
      exact hl (by rw [e])
    have HNE := Lib.hid hne
    clear hne hl
    go_enter Try.func12, Try.ntmps12
    go_wp2_with fail
    go_ret
    rw [HNE.out]
    exact ⟨rfl, Aft.refl _⟩

end Go.Proofs.Ytiblkkbjnlccaaa
