/-
  The walks of reservoirbook.Same and Intact at fields.
-/
import Derived.Test.YtimpnknmhbpffaaRoomyF
import Derived.BigQuiet
namespace Go.Proofs.Ytimpnknmhbpffaa
open Go.RowKit

set_option maxHeartbeats 1000000 in
theorem sameF_any (v1 v2 : Value) (l : List FieldL) (w : World) (h1 : RbF w v1 l) (h2 : RbF w v2 l) :
    Calls Try.prog 52 #[v1, v2] w fun e w' => e = .returned (.bool true) ∧ Aft w w' := by
  obtain ⟨a1, c1, b1, o1, rfl, m1, n1, p1, q1, r1⟩ := h1.open
  obtain ⟨a2, c2, b2, o2, rfl, m2, n2, p2, q2, r2⟩ := h2.open
  unfold maxLen at n1 n2
  clear h1 h2
  have hb : ((l.length : Int) != (l.length : Int)) = false := by simp
  have hl63 : l.length ≤ 9223372036854775807 := by omega
  clear m1 m2 n1 n2
  go_enter Try.func52, Try.ntmps52
  go_wp2_with fail
  go_loopw [5] (fun v wr => ∃ k : Nat, k ≤ l.length ∧ v = .int .i64 (k : Int) ∧ Aft w wr) (fun v _ => l.length - (intOf v).toNat)
  case atStart => exact ⟨0, by omega, by go_num, Aft.refl _⟩
  case round =>
    obtain ⟨k, hk, rfl, hwr⟩ := hrel
    by_cases hlt : k < l.length
    · have ne1 : l ≠ [] := by intro e; rw [e] at hlt; simp at hlt
      have x1 : wr.cell? ⟨b1, o1 + k * 2, none⟩ = some (strV l[k].1) := by
        rw [Below.cell hwr.to (p := ⟨b1, o1 + k * 2, none⟩) (q1 ne1)]; exact (r1 k hlt).1
      have x2 : wr.cell? ⟨b1, o1 + k * 2 + 1, none⟩ = some (strV l[k].2) := by
        rw [Below.cell hwr.to (p := ⟨b1, o1 + k * 2 + 1, none⟩) (q1 ne1)]; exact (r1 k hlt).2
      have y1 : wr.cell? ⟨b2, o2 + k * 2, none⟩ = some (strV l[k].1) := by
        rw [Below.cell hwr.to (p := ⟨b2, o2 + k * 2, none⟩) (q2 ne1)]; exact (r2 k hlt).1
      have y2 : wr.cell? ⟨b2, o2 + k * 2 + 1, none⟩ = some (strV l[k].2) := by
        rw [Below.cell hwr.to (p := ⟨b2, o2 + k * 2 + 1, none⟩) (q2 ne1)]; exact (r2 k hlt).2
      obtain ⟨s1, hs1⟩ : ∃ s, strV l[k].1 = .string s := ⟨_, rfl⟩
      obtain ⟨s2, hs2⟩ : ∃ s, strV l[k].2 = .string s := ⟨_, rfl⟩
      rw [hs1] at x1 y1
      rw [hs2] at x2 y2
      obtain rfl := p1 ne1
      obtain rfl := p2 ne1
      clear p1 p2 q1 q2 r1 r2 ne1 hs1 hs2
      have i1 : (k : Int) < (l.length : Int) := by omega
      go_wp2_with fail
      go_quiet (fail)
      go_wp2_with fail
      go_roundw
      case rel => exact ⟨k + 1, by omega, by go_num, hwr.drewN _⟩
      case measure => simp [intOf]; omega
    · go_wp2_with fail
      go_ret
      exact ⟨rfl, hwr⟩

set_option maxHeartbeats 2000000 in
theorem intactF_any (v1 v2 : Value) (l : List FieldL) (w : World) (h1 : RbF w v1 (l ++ List.replicate 80 markF)) (h2 : RbF w v2 l) (hlen : l.length ≤ 1000000) :
    Calls Try.prog 24 #[v1, v2, .agg #[.string ⟨#[109]⟩, .string ⟨#[]⟩]] w fun e w' => e = .returned (.bool true) ∧ Aft w w' := by
  rcases h1 with ⟨_, h⟩ | ⟨b, off, cap, rfl, g1, g2, g3, g4⟩
  · have := congrArg List.length h
    simp at this
  · have hll : (l ++ List.replicate 80 markF).length = l.length + 80 := by simp
    have hcut : RbF w (.slice (some ⟨b, off, none⟩) l.length cap) l := by
      refine Or.inr ⟨b, off, cap, rfl, by omega, g2, g3, fun i hi => ?_⟩
      have := g4 i (by omega)
      rw [List.getElem_append_left hi] at this
      exact this
    have hmk0 : ∀ j, j < 80 → w.cell? ⟨b, off + (l.length + j) * 2, none⟩ = some (.string ⟨#[109]⟩) := by
      intro j hj
      have := (g4 (l.length + j) (by omega)).1
      rw [this, List.getElem_append_right (by omega), List.getElem_replicate]
      rfl
    have hmk1 : ∀ j, j < 80 → w.cell? ⟨b, off + (l.length + j) * 2 + 1, none⟩ = some (.string ⟨#[]⟩) := by
      intro j hj
      have := (g4 (l.length + j) (by omega)).2
      rw [this, List.getElem_append_right (by omega), List.getElem_replicate]
      rfl
    rw [hll] at g1 ⊢
    obtain ⟨a2, cap2, b2, off2, rfl, m2, _, _, _⟩ := h2.open
    unfold maxLen at g2
    have hb0 : (((l.length + 80 : Nat) : Int) != (l.length : Int) + 80) = false := by rw [bne_eq_false_iff_eq]; omega
    obtain ⟨B, hB⟩ : ∃ B, w.heap.size = B := ⟨_, rfl⟩
    have HB := Lib.hid hB
    have hA := (Aft.refl w).alloc (.cells #[.string ⟨#[109]⟩, .string ⟨#[]⟩] 32)
    have m0 : (w.alloc (.cells #[.string ⟨#[109]⟩, .string ⟨#[]⟩] 32)).cell? ⟨B, 0, none⟩ = some (.string ⟨#[109]⟩) := by subst hB; simp [go_sem]
    have m1 : (w.alloc (.cells #[.string ⟨#[109]⟩, .string ⟨#[]⟩] 32)).cell? ⟨B, 1, none⟩ = some (.string ⟨#[]⟩) := by subst hB; simp [go_sem]
    have HBZ : Hid (B < (w.alloc (.cells #[.string ⟨#[109]⟩, .string ⟨#[]⟩] 32)).heap.size) := Lib.hid (by rw [World.size_alloc, hB]; omega)
    have HC := Lib.hid (hcut.aft hA)
    have H2 := Lib.hid (h2.aft hA)
    have HM0 := Lib.hid hmk0
    have HM1 := Lib.hid hmk1
    have HA := Lib.hid hA
    have HX := Lib.hid (And.intro m0 m1)
    clear hcut hmk0 hmk1 h2 g4 hll m2 m0 m1 hA hB
    go_enter Try.func24, Try.ntmps24
    go_wp2_with fail
    rw [HB.out]
    refine (sameF_any _ _ l _ HC.out H2.out).mono ?_
    rintro e w1 ⟨rfl, b1⟩
    have hx := HX.out
    have hA := HA.out
    have hZ := HBZ.out
    clear HX HA HBZ HC H2
    generalize w.alloc (.cells #[.string ⟨#[109]⟩, .string ⟨#[]⟩] 32) = W1 at hx hA hZ b1
    have hx0 : w1.cell? ⟨B, 0, none⟩ = some (.string ⟨#[109]⟩) := by rw [Below.cell b1.to (p := ⟨B, 0, none⟩) hZ]; exact hx.1
    have hx1 : w1.cell? ⟨B, 1, none⟩ = some (.string ⟨#[]⟩) := by rw [Below.cell b1.to (p := ⟨B, 1, none⟩) hZ]; exact hx.2
    have HX0 := Lib.hid hx0
    have HX1 := Lib.hid hx1
    have HA := Lib.hid (hA.trans b1)
    have HZ := Lib.hid (Nat.lt_of_lt_of_le hZ b1.size)
    clear hx hx0 hx1 hA hZ b1
    go_wp2_with fail
    go_loopw [7] (fun vi wr => ∃ j : Nat, j ≤ 80 ∧ vi = .int .i64 ((l.length + j : Nat) : Int) ∧ Hid (Aft w1 wr)) (fun vi _ => l.length + 80 - (intOf vi).toNat)
    case atStart => exact ⟨0, by omega, by go_num, Lib.hid (Aft.refl _)⟩
    case round =>
      obtain ⟨j, hj, rfl, HW⟩ := hrel
      by_cases hlt : j < 80
      · have c0 : wr.cell? ⟨b, off + (l.length + j) * 2, none⟩ = some (.string ⟨#[109]⟩) := by
          rw [Below.cell (HA.out.trans HW.out).to (p := ⟨b, off + (l.length + j) * 2, none⟩) g3]
          exact HM0.out j hlt
        have c1 : wr.cell? ⟨b, off + (l.length + j) * 2 + 1, none⟩ = some (.string ⟨#[]⟩) := by
          rw [Below.cell (HA.out.trans HW.out).to (p := ⟨b, off + (l.length + j) * 2 + 1, none⟩) g3]
          exact HM1.out j hlt
        have d0 : wr.cell? ⟨B, 0, none⟩ = some (.string ⟨#[109]⟩) := by rw [Below.cell HW.out.to (p := ⟨B, 0, none⟩) HZ.out]; exact HX0.out
        have d1 : wr.cell? ⟨B, 1, none⟩ = some (.string ⟨#[]⟩) := by rw [Below.cell HW.out.to (p := ⟨B, 1, none⟩) HZ.out]; exact HX1.out
        have q1 : ((l.length + j : Nat) : Int) < ((l.length + 80 : Nat) : Int) := by omega
        go_wp2_with fail
        go_quiet (fail)
        go_wp2_with fail
        go_roundw
        case rel => exact ⟨j + 1, by omega, by go_num, Lib.hid (HW.out.drewN _)⟩
        case measure => simp [intOf] <;> omega
      · have hj8 : j = 80 := by omega
        subst hj8
        go_wp2_with fail
        go_ret
        exact ⟨rfl, HA.out.trans HW.out⟩

end Go.Proofs.Ytimpnknmhbpffaa
