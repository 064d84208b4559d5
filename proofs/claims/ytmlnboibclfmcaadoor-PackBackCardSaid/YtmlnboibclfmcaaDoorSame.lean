/-
  The walk of reservoirbook.Same at bytes.
-/
import Derived.Test.YtmlnboibclfmcaaDoorBuf
namespace Go.Proofs.YtmlnboibclfmcaaDoor
open Go.RowKit

/-- A readable slice of bytes, as a value and a fact for each cell. -/
theorem Rb.open {w : World} {v : Value} {l : List UInt8} (h : Rb w v l) : ∃ (a : Option Addr) (cap : Nat) (b off : Nat), v = .slice a l.length cap ∧ l.length ≤ maxLen ∧ (l ≠ [] → a = some ⟨b, off, none⟩) ∧ (l ≠ [] → b < w.heap.size) ∧ ∀ i (h : i < l.length), w.cell? ⟨b, off + i, none⟩ = some (.int .u8 (l[i].toNat : Int)) := by
  rcases h with ⟨⟨a0, rfl⟩, rfl⟩ | ⟨b, off, cap, rfl, h1, h2, h3, h4⟩
  · exact ⟨a0, 0, 0, 0, rfl, by simp, fun h => absurd rfl h, fun h => absurd rfl h, fun i h => by simp at h⟩
  · exact ⟨_, cap, b, off, rfl, Nat.le_trans h1 h2, fun _ => rfl, fun _ => h3, h4⟩
theorem same_take {l1 l2 : List UInt8} (hl : l1.length = l2.length) {k : Nat} (h : l1.take k = l2.take k) (hk : k < l1.length) (he : l1[k] = l2[k]'(by omega)) : l1.take (k + 1) = l2.take (k + 1) := by
  rw [List.take_succ_eq_append_getElem hk, List.take_succ_eq_append_getElem (by omega), h, he]

set_option maxHeartbeats 1000000 in
theorem same_any (v1 v2 : Value) (l1 l2 : List UInt8) (w : World) (h1 : Rb w v1 l1) (h2 : Rb w v2 l2) :
    Calls Tryd.prog 40 #[v1, v2] w fun e w' => e = .returned (.bool (l1 == l2)) ∧ Aft w w' := by
  obtain ⟨a1, c1, b1, o1, rfl, m1, p1, q1, r1⟩ := h1.open
  obtain ⟨a2, c2, b2, o2, rfl, m2, p2, q2, r2⟩ := h2.open
  unfold maxLen at m1 m2
  clear h1 h2
  by_cases hl : l1.length = l2.length
  · have hb : ((l1.length : Int) != (l2.length : Int)) = false := by rw [bne_eq_false_iff_eq]; omega
    have HL := Lib.hid hl
    have hl1 : l1.length ≤ l2.length := by omega
    have hl2 : l2.length ≤ l1.length := by omega
    clear hl
    go_enter Tryd.func40, Tryd.ntmps40
    go_wp2_with fail
    go_loopw [5] (fun v wr => ∃ k : Nat, k ≤ l1.length ∧ v = .int .i64 (k : Int) ∧ Hid (l1.take k = l2.take k) ∧ Aft w wr) (fun v _ => l1.length - (intOf v).toNat)
    case atStart => exact ⟨0, by omega, by go_num, Lib.hid rfl, Aft.refl _⟩
    case round =>
      obtain ⟨k, hk, rfl, HT, hwr⟩ := hrel
      by_cases hlt : k < l1.length
      · have ne1 : l1 ≠ [] := by intro e; rw [e] at hlt; simp at hlt
        have ne2 : l2 ≠ [] := by intro e; have := congrArg List.length e; rw [List.length_nil] at this; omega
        have x1 : wr.cell? ⟨b1, o1 + k, none⟩ = some (.int .u8 (l1[k].toNat : Int)) := by
          rw [Below.cell hwr.to (p := ⟨b1, o1 + k, none⟩) (q1 ne1)]; exact r1 k hlt
        have x2 : wr.cell? ⟨b2, o2 + k, none⟩ = some (.int .u8 ((l2[k]'(by omega)).toNat : Int)) := by
          rw [Below.cell hwr.to (p := ⟨b2, o2 + k, none⟩) (q2 ne2)]; exact r2 k (by omega)
        obtain rfl := p1 ne1
        obtain rfl := p2 ne2
        clear p1 p2 q1 q2 r1 r2 ne1 ne2
        have i1 : (k : Int) < (l1.length : Int) := by omega
        have i2 : (k : Int) < (l2.length : Int) := by omega
        by_cases he : l1[k] = l2[k]'(by omega)
        · have hst := same_take HL.out HT.out hlt he
          have HST := Lib.hid hst
          have hbe : ((l1[k].toNat : Int) != ((l2[k]'(by omega)).toNat : Int)) = false := by rw [bne_eq_false_iff_eq, he]
          clear hst he
          go_wp2_with fail
          go_quiet (fail)
          go_wp2_with fail
          go_roundw
          case rel => exact ⟨k + 1, by omega, by go_num, HST, hwr.drewN _⟩
          case measure => simp [intOf]; omega
        · have hne : (l1 == l2) = false := by
            rw [beq_eq_false_iff_ne]
            intro e
            subst e
            exact he rfl
          have HNE := Lib.hid hne
          have hbe : ((l1[k].toNat : Int) != ((l2[k]'(by omega)).toNat : Int)) = true := by
            rw [bne_iff_ne]
            intro e
            exact he (UInt8.toNat_inj.1 (by omega))
          clear hne he
          go_wp2_with fail
          go_quiet (fail)
          go_wp2_with fail
          go_ret
          rw [HNE.out]
          exact ⟨rfl, hwr.drewN _⟩
      · have he : l1 = l2 := by
          have := HT.out
          rw [List.take_of_length_le (by omega), List.take_of_length_le (by omega)] at this
          exact this
        have hbe : (l1 == l2) = true := by rw [he]; simp
        have HBE := Lib.hid hbe
        clear he hbe
        go_wp2_with fail
        go_ret
        rw [HBE.out]
        exact ⟨rfl, hwr⟩
  · have hb : ((l1.length : Int) != (l2.length : Int)) = true := by rw [bne_iff_ne]; omega
    have hne : (l1 == l2) = false := by
      rw [beq_eq_false_iff_ne]
      intro e
      exact hl (by rw [e])
    have HNE := Lib.hid hne
    clear hne hl
    go_enter Tryd.func40, Tryd.ntmps40
    go_wp2_with fail
    go_ret
    rw [HNE.out]
    exact ⟨rfl, Aft.refl _⟩

end Go.Proofs.YtmlnboibclfmcaaDoor
