/-
  The walks of reservoirbook.Roomy and Intact at bytes.
-/
import Derived.Test.YtmlnboibclfmcaaDoorSame
import Derived.Laws.CopyOwn
import Derived.OwnWalk
namespace Go.Proofs.YtmlnboibclfmcaaDoor
open Go.RowKit

theorem bv_rep (k : Nat) (c : UInt8) : bv (List.replicate k c) = List.replicate k (.int .u8 (c.toNat : Int)) := by simp [bv]
theorem bv_toArray_size (l : List UInt8) : (bv l).toArray.size = l.length := by simp [bv]
theorem Own.of_block {w : World} {base g : Nat} {l : List UInt8} (h : w.heap[g]? = some (.cells (bv l).toArray 5 (0, 0))) (hb : base ≤ g) (hl : l.length ≤ maxLen) : Own w base (.slice (some ⟨g, 0, none⟩) l.length l.length) l := by
  refine ⟨by rw [bv_len, Nat.mul_one], Or.inr ⟨g, l.length, (bv l).toArray, rfl, hb, h, Nat.le_refl _, hl, by rw [bv_toArray_size, Nat.mul_one], ?_⟩⟩
  exact List.take_of_length_le (by simp [bv])
theorem block_cell {w : World} {g : Nat} {l : List UInt8} (h : w.heap[g]? = some (.cells (bv l).toArray 5 (0, 0))) {j : Nat} (hj : j < l.length) : w.cell? ⟨g, j, none⟩ = some (.int .u8 (l[j].toNat : Int)) := by
  rw [cell_of_row w g j _ _ (0, 0) h]
  simp [bv, hj]
theorem block_free {w : World} {g : Nat} {l : List UInt8} (h : w.heap[g]? = some (.cells (bv l).toArray 5 (0, 0))) (j : Nat) : w.frozen? ⟨g, j, none⟩ = false := frozen_of_row w g j _ _ h
theorem block_set {w : World} {g : Nat} {l : List UInt8} (h : w.heap[g]? = some (.cells (bv l).toArray 5 (0, 0))) (j : Nat) (c : UInt8) : (w.setCell ⟨g, j, none⟩ (.int .u8 (c.toNat : Int))).heap[g]? = some (.cells (bv (l.set j c)).toArray 5 (0, 0)) := by
  rw [heap_setCell_same w g j _ _ _ h]
  unfold bv
  rw [List.map_set]
  simp
/-- The list in the middle of being marked. -/
def marked (l : List UInt8) (c : UInt8) (j : Nat) : List UInt8 := l ++ (List.replicate j c ++ List.replicate (80 - j) 0)
theorem marked_len (l : List UInt8) (c : UInt8) {j : Nat} (hj : j ≤ 80) : (marked l c j).length = l.length + 80 := by simp [marked]; omega
theorem marked_set (l : List UInt8) (c : UInt8) {j : Nat} (hj : j < 80) : (marked l c j).set (l.length + j) c = marked l c (j + 1) := by
  unfold marked
  rw [List.set_append_right _ _ (by omega), show l.length + j - l.length = j by omega, List.set_append_right _ _ (by simp), List.length_replicate, Nat.sub_self, show 80 - j = (80 - (j + 1)) + 1 by omega, List.replicate_succ, List.set_cons_zero, List.replicate_succ']
  simp
theorem marked_end (l : List UInt8) (c : UInt8) : marked l c 80 = l ++ List.replicate 80 c := by simp [marked]
theorem marked_splice (l : List UInt8) (c : UInt8) : splice (bv (List.replicate (l.length + 80) 0)) 0 (bv l) = bv (marked l c 0) := by
  unfold splice marked
  rw [bv_append, bv_len]
  simp [bv, List.map_replicate]

theorem own_block {w : World} {base e size g n : Nat} {xs : List Value} (h : w.ownsRow base e size (.slice (some ⟨g, 0, none⟩) n n) n xs) : w.heap[g]? = some (.cells xs.toArray e (0, 0)) := by
  obtain ⟨h1, ⟨h2, _⟩ | ⟨g', cap, cur, h2, h3, h4, h5, h6, h7, h8⟩⟩ := h
  · cases h2
  · injection h2 with e1 _ e2
    injection e1 with e1
    injection e1 with e1
    subst e1 e2
    rw [List.take_of_length_le (by simp [h7])] at h8
    rw [h4, ← h8]
theorem made_bv (n : Nat) : (madeCells (Value.int .u8 0).cells (n * 1)).toList = bv (List.replicate n 0) := by
  rw [Nat.mul_one, bv_rep]
  exact toList_madeCells_one _ _

set_option maxHeartbeats 1000000 in
theorem roomy_any (v : Value) (l : List UInt8) (c : UInt8) (w : World) (hr : Rb w v l) (hlen : l.length ≤ 1000000000) :
    Calls Tryd.prog 53 #[v, .int .u8 (c.toNat : Int)] w fun e w' => ∃ g, e = .returned (.slice (some ⟨g, 0, none⟩) (l.length + 80) (l.length + 80)) ∧ w.heap.size ≤ g ∧ Hid (w'.heap[g]? = some (.cells (bv (l ++ List.replicate 80 c)).toArray 5 (0, 0))) ∧ Aft w w' := by
  obtain ⟨a1, cap, b, off, rfl, m1, p1, q1, r1⟩ := hr.open
  have R1 := Lib.hid r1
  have P1 := Lib.hid p1
  clear hr q1 r1 p1 m1
  obtain ⟨i0, hi, hz0, hz1, hz2⟩ := info_parts info8
  have y0 : 0 ≤ (c.toNat : Int) := by omega
  have y1 : (c.toNat : Int) < 256 := by have := c.toNat_lt; omega
  obtain ⟨y, HY⟩ : ∃ y : Int, Hid ((c.toNat : Int) = y) := ⟨_, Lib.hid rfl⟩
  rw [HY.out] at y0 y1 ⊢
  have hb2 : i0.bytes * (l.length + 80) ≤ 281474976710656 := by rw [hz2]; omega
  have hb3 : l.length + 80 ≤ maxLen := by unfold maxLen; omega
  have hsz8 : (Tryd.prog.info? 5).map (·.size) = some 1 := by kernel_rfl
  go_enter Tryd.func53, Tryd.ntmps53
  obtain ⟨Z, HZ⟩ : ∃ Z, Hid (bv (List.replicate (l.length + 80) 0) = Z) := ⟨_, Lib.hid rfl⟩
  obtain ⟨X, HX⟩ : ∃ X, Hid (bv l = X) := ⟨_, Lib.hid rfl⟩
  have hzl : Z.length = l.length + 80 := by rw [← HZ.out, bv_len, List.length_replicate]
  have hxl : X.length = l.length := by rw [← HX.out, bv_len]
  have hx1 : ∀ u ∈ X, u.oneCell' = true := by
    rw [← HX.out]
    intro u hu
    unfold bv at hu
    obtain ⟨c, _, rfl⟩ := List.mem_map.1 hu
    rfl
  have HX1 := Lib.hid hx1
  have HXL := Lib.hid hxl
  have HZL := Lib.hid hzl
  clear hx1 hxl hzl
  go_wp2_with (first | (at_make; refine wpList_make_full w rfl _ _ 54 rfl w.heap.size 5 i0 (.int .u8 0) 1 Tryd.underlying54 hi hz0 hz1 .i64 .i64 _ _ (l.length + 80) rfl rfl (by push_cast; rfl) (by push_cast; rfl) hb2 hb3 (Nat.le_refl _) ?_; intro w3 hown3 hg3; rw [made_bv, HZ.out] at hown3; have hbl3 := Lib.hid (own_block hown3); have hbel3 : Below w.heap.size w w3 := Below.grown (Below.refl _ _) hg3 (Nat.le_refl _) (fun k hk => by cases hk)) | (with_reducible refine wpList_copy_splice rfl (.tmp 11) (.tmp 12) 54 54 rfl 5 Tryd.underlying54 hsz8 _ _ _ _ _ _ rfl rfl w.heap.size 0 Z 5 hbl3.out X ?c1 ?c2 ?c3 ?c4 w.heap.size w hbel3 (Nat.le_refl _) ?_))
  case c1 => rw [HXL.out]; exact (Nat.min_eq_left (by omega)).symm
  case c2 =>
    intro h0
    rw [HXL.out] at h0
    refine ⟨⟨b, off, none⟩, P1.out (by intro e; rw [e] at h0; simp at h0), fun j u hj => ?_⟩
    rw [← HX.out] at hj
    unfold bv at hj
    rw [List.getElem?_map] at hj
    cases hm : l[j]? with
    | none => rw [hm] at hj; cases hj
    | some d =>
      rw [hm] at hj
      simp only [Option.map_some, Option.some.injEq] at hj
      subst hj
      obtain ⟨hlt, he⟩ := List.getElem?_eq_some_iff.1 hm
      have hx := R1.out j hlt
      have hbb : b < w.heap.size := World.block_lt_of_cell? w _ hx
      rw [show (⟨b, off, none⟩ : Addr).add j = ⟨b, off + j, none⟩ from Addr.add_lit _ _ _, Below.cell hbel3 (p := ⟨b, off + j, none⟩) hbb, hx, he]
  case c3 => rw [HXL.out, HZL.out]; omega
  case c4 => exact HX1.out
  intro w4 hb4 hbel4
  have hb5 : Hid (w4.heap[w.heap.size]? = some (.cells (bv (marked l c 0)).toArray 5 (0, 0))) := by
    have := hb4.out
    rw [← HZ.out, ← HX.out, marked_splice] at this
    exact Lib.hid this
  obtain ⟨G, HG⟩ : ∃ G, Hid (w.heap.size = G) := ⟨_, Lib.hid rfl⟩
  rw [HG.out] at hb5 hbel4 ⊢
  clear hb4 hbl3 hown3 hg3 hbel3 HX1 HXL HZL HX HZ hi hz0 hz1 hz2 hb2 hsz8 R1 P1
  have hl63 : l.length + 80 ≤ 2000000000 := by omega
  clear hb3
  go_wp2_with fail
  go_loopw [6] (fun vi wr => ∃ j : Nat, j ≤ 80 ∧ vi = .int .i64 ((l.length + j : Nat) : Int) ∧ Hid (wr.heap[G]? = some (.cells (bv (marked l c j)).toArray 5 (0, 0))) ∧ Below G w wr) (fun vi _ => l.length + 80 - (intOf vi).toNat)
  case atStart => exact ⟨0, by omega, by go_num, hb5, hbel4⟩
  case round =>
    obtain ⟨j, hj, rfl, HB, hbel⟩ := hrel
    by_cases hlt : j < 80
    · have hcl : wr.cell? ⟨G, l.length + j, none⟩ = some (.int .u8 ((marked l c j)[l.length + j]'(by rw [marked_len l c hj]; omega)).toNat) := block_cell HB.out _
      have hfr : wr.frozen? ⟨G, l.length + j, none⟩ = false := block_free HB.out _
      generalize (Value.int .u8 ((marked l c j)[l.length + j]'(by rw [marked_len l c hj]; omega)).toNat) = old at hcl
      have hset := block_set HB.out (l.length + j) c
      rw [marked_set l c hlt, HY.out] at hset
      have HS := Lib.hid hset
      clear hset
      have q1 : ((l.length + j : Nat) : Int) < ((l.length + 80 : Nat) : Int) := by omega
      go_wp2_with fail
      go_roundw
      case rel => exact ⟨j + 1, by omega, by go_num, HS, hbel.setCell (Nat.le_refl _) _⟩
      case measure => simp [intOf]; omega
    · have hj8 : j = 80 := by omega
      subst hj8
      rw [marked_end] at HB
      go_wp2_with fail
      go_ret
      exact ⟨G, rfl, by rw [HG.out]; exact Nat.le_refl _, HB, by unfold Aft; rw [HG.out]; exact hbel⟩

set_option maxHeartbeats 1000000 in
theorem intact_any (v1 v2 : Value) (l : List UInt8) (c : UInt8) (w : World) (h1 : Rb w v1 (l ++ List.replicate 80 c)) (h2 : Rb w v2 l) (hlen : l.length ≤ 1000000000) :
    Calls Tryd.prog 55 #[v1, v2, .int .u8 (c.toNat : Int)] w fun e w' => e = .returned (.bool true) ∧ Aft w w' := by
  rcases h1 with ⟨_, h⟩ | ⟨b, off, cap, rfl, g1, g2, g3, g4⟩
  · have := congrArg List.length h
    simp at this
  · have hll : (l ++ List.replicate 80 c).length = l.length + 80 := by simp
    have hcut : Rb w (.slice (some ⟨b, off, none⟩) l.length cap) l := by
      refine Or.inr ⟨b, off, cap, rfl, by omega, g2, g3, fun i hi => ?_⟩
      have := g4 i (by omega)
      rw [this]
      simp [List.getElem_append_left hi]
    have hmk : ∀ j, j < 80 → w.cell? ⟨b, off + (l.length + j), none⟩ = some (.int .u8 (c.toNat : Int)) := by
      intro j hj
      have := g4 (l.length + j) (by omega)
      rw [this, List.getElem_append_right (by omega), List.getElem_replicate]
    rw [hll] at g1 ⊢
    obtain ⟨a2, cap2, b2, off2, rfl, m2, _, _, _⟩ := h2.open
    unfold maxLen at g2
    obtain ⟨y, HY⟩ : ∃ y : Int, Hid ((c.toNat : Int) = y) := ⟨_, Lib.hid rfl⟩
    rw [HY.out] at hmk ⊢
    have hb0 : (((l.length + 80 : Nat) : Int) != (l.length : Int) + 80) = false := by rw [bne_eq_false_iff_eq]; omega
    have HC := Lib.hid hcut
    have HM := Lib.hid hmk
    have H2 := Lib.hid h2
    clear hcut hmk h2 g4 hll m2
    go_enter Tryd.func55, Tryd.ntmps55
    go_wp2_with fail
    refine (same_any _ _ l l _ HC.out H2.out).mono ?_
    rintro e w1 ⟨rfl, b1⟩
    rw [beq_self_eq_true]
    go_wp2_with fail
    go_loopw [7] (fun vi wr => ∃ j : Nat, j ≤ 80 ∧ vi = .int .i64 ((l.length + j : Nat) : Int) ∧ wr = w1) (fun vi _ => l.length + 80 - (intOf vi).toNat)
    case atStart => exact ⟨0, by omega, by go_num, rfl⟩
    case round =>
      obtain ⟨j, hj, rfl, rfl⟩ := hrel
      by_cases hlt : j < 80
      · have hcl : wr.cell? ⟨b, off + (l.length + j), none⟩ = some (.int .u8 y) := by
          rw [Below.cell b1.to (p := ⟨b, off + (l.length + j), none⟩) g3]
          exact HM.out j hlt
        have q1 : ((l.length + j : Nat) : Int) < ((l.length + 80 : Nat) : Int) := by omega
        go_wp2_with fail
        go_roundw
        case rel => exact ⟨j + 1, by omega, by go_num, trivial⟩
        case measure => simp [intOf]; omega
      · have hj8 : j = 80 := by omega
        subst hj8
        go_wp2_with fail
        go_ret
        exact ⟨rfl, b1⟩

end Go.Proofs.YtmlnboibclfmcaaDoor
