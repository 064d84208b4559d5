/-
  The reference's table.
-/
import Derived.Test.YtmlnboibclfmcaaDoorTbl4
import Derived.Test.YtmlnboibclfmcaaDoorFldRef
import Derived.Test.YtmlnboibclfmcaaDoorPushF
import Derived.Deep.QuietTactic
import Derived.BigQuiet
namespace Go.Proofs.YtmlnboibclfmcaaDoor
open Go.RowKit
set_option linter.unusedVariables false

structure RTab (w : World) (B g : Nat) (vo : Value) (l : List FieldL) (m : Int) : Prop where
  blk : w.heap[g]? = some (.cells #[vo, .int .i64 m] 49 (0, 0))
  own : OwnF w B vo l
  gB : B ≤ g
theorem RTab.own_ne {w : World} {B g : Nat} {vo : Value} {l : List FieldL} {m : Int} (h : RTab w B g vo l m) : vo.ownBlock ≠ some g := fun e => by
  obtain ⟨cur, h1⟩ := h.own.blk e
  rw [h.blk] at h1
  injection h1 with h1
  injection h1 with _ h1
  exact absurd h1 (by decide)
theorem RTab.lt {w : World} {B g : Nat} {vo : Value} {l : List FieldL} {m : Int} (h : RTab w B g vo l m) : g < w.heap.size := by
  rcases Nat.lt_or_ge g w.heap.size with h1 | h1
  · exact h1
  · have := h.blk; rw [Array.getElem?_eq_none h1] at this; cases this
theorem RTab.chg {p : Nat → Prop} {w w' : World} {B g : Nat} {vo : Value} {l : List FieldL} {m : Int} (h : RTab w B g vo l m) (hc : Chg p w w') (hg : ¬ p g) (ho : ∀ k, vo.ownBlock = some k → ¬ p k) : RTab w' B g vo l m :=
  ⟨(hc.block g h.lt hg).trans h.blk, h.own.chg hc ho, h.gB⟩
theorem RTab.aft {w w' : World} {B g : Nat} {vo : Value} {l : List FieldL} {m : Int} (h : RTab w B g vo l m) (ha : Aft w w') : RTab w' B g vo l m :=
  h.chg (Chg.of_aft (p := fun _ => False) ha) (fun h => h) (fun _ _ h => h)
theorem RTab.cells {w : World} {B g : Nat} {vo : Value} {l : List FieldL} {m : Int} (h : RTab w B g vo l m) :
    w.cell? ⟨g, 0, none⟩ = some vo ∧ w.cell? ⟨g, 1, none⟩ = some (.int .i64 m) ∧ w.frozen? ⟨g, 0, none⟩ = false ∧ w.frozen? ⟨g, 1, none⟩ = false := by
  have hb := h.blk
  refine ⟨?_, ?_, ?_, ?_⟩
  · rw [cell_of_row w g _ _ _ (0, 0) hb]; rfl
  · rw [cell_of_row w g _ _ _ (0, 0) hb]; rfl
  · exact frozen_of_row w g _ _ _ hb
  · exact frozen_of_row w g _ _ _ hb
theorem RTab.upd {w : World} {B g : Nat} {vo : Value} {l : List FieldL} {m : Int} (h : RTab w B g vo l m) {vo' : Value} {l' : List FieldL} (ho' : OwnF w B vo' l') (hown : ∀ k, vo'.ownBlock = some k → vo.ownBlock = some k) : RTab (w.setCell ⟨g, 0, none⟩ vo') B g vo' l' m := by
  have hc : Chg (fun k => k = g) w (w.setCell ⟨g, 0, none⟩ vo') := (Chg.refl (fun k => k = g) w).set g 0 _ (Or.inl rfl)
  refine ⟨?_, ho'.chg hc (fun k hk e => by subst e; exact h.own_ne (hown _ hk)), h.gB⟩
  rw [heap_setCell_same w g 0 _ _ vo' h.blk]
  rfl
theorem RTab.most {w : World} {B g : Nat} {vo : Value} {l : List FieldL} {m : Int} (h : RTab w B g vo l m) (n : Int) : RTab (w.setCell ⟨g, 1, none⟩ (.int .i64 n)) B g vo l n := by
  have hc : Chg (fun k => k = g) w (w.setCell ⟨g, 1, none⟩ (.int .i64 n)) := (Chg.refl (fun k => k = g) w).set g 1 _ (Or.inl rfl)
  refine ⟨?_, h.own.chg hc (fun k hk e => by subst e; exact h.own_ne hk), h.gB⟩
  rw [heap_setCell_same w g 1 _ _ _ h.blk]
  rfl
theorem RTab.put {w3 w6 : World} {B g : Nat} {vo1 : Value} {l1 : List FieldL} {m : Int} (h : RTab w3 B g vo1 l1 m) (hg : w6.heap[g]? = w3.heap[g]?) {v6 : Value} {l6 : List FieldL} (o6 : OwnF w6 B v6 l6) (hn : ∀ k, v6.ownBlock = some k → w3.heap.size ≤ k) : RTab (w6.setCell ⟨g, 0, none⟩ v6) B g v6 l6 m := by
  have hne : v6.ownBlock ≠ some g := fun e => by
    have h1 := hn g e
    have := h.lt; omega
  have hc : Chg (fun k => k = g) w6 (w6.setCell ⟨g, 0, none⟩ v6) := (Chg.refl (fun k => k = g) w6).set g 0 _ (Or.inl rfl)
  refine ⟨?_, o6.chg hc (fun k hk e => by subst e; exact hne hk), h.gB⟩
  rw [heap_setCell_same w6 g 0 _ _ v6 (hg.trans h.blk)]
  rfl

theorem rnew_no (n : Int) (h : ¬ (0 ≤ n ∧ n ≤ 65536)) (w : World) : Calls Tryd.prog 28 #[.int .i64 n] w fun e w' => e = .returned (.tuple #[.pointer none, .int .i64 1]) ∧ w = w' := by
  by_cases h0 : n < 0
  · clear h
    go_enter Tryd.func28, Tryd.ntmps28
    go_wp2_with fail
    go_ret2
    exact ⟨rfl, rfl⟩
  · have h1 : n > 65536 := by omega
    clear h
    go_enter Tryd.func28, Tryd.ntmps28
    go_wp2_with fail
    go_ret2
    exact ⟨rfl, rfl⟩
theorem rnew_yes (n : Int) (h0 : 0 ≤ n) (h1 : n ≤ 65536) (w : World) : Calls Tryd.prog 28 #[.int .i64 n] w fun e w' => ∃ g, e = .returned (.tuple #[.pointer (some ⟨g, 0, none⟩), .int .i64 0]) ∧ RTab w' w.heap.size g (.slice none 0 0) [] n ∧ Aft w w' := by
  have k0 : ¬ n < 0 := by omega
  have k1 : ¬ n > 65536 := by omega
  clear h0 h1
  go_enter Tryd.func28, Tryd.ntmps28
  go_wp2_with fail
  go_ret2
  exact ⟨w.heap.size, rfl, ⟨heap_alloc_new w _, OwnF.nil _ _, Nat.le_refl _⟩, (Aft.refl _).alloc _⟩

set_option maxHeartbeats 4000000 in
theorem rsize_any {w : World} {B g : Nat} {vo : Value} {l : List FieldL} {m : Int} (h : RTab w B g vo l m) (hs : sumF l ≤ 1000000000000) : Calls Tryd.prog 33 #[.pointer (some ⟨g, 0, none⟩)] w fun e w' => e = .returned (.int .i64 (sumF l : Int)) ∧ Aft w w' := by
  obtain ⟨oa, og, oc, hoe, ho1, ho2, hop, hoc⟩ := h.own.form
  unfold maxLen at ho2
  subst hoe
  have HOC := Lib.hid hoc
  have HOP := Lib.hid hop
  have HSS := Lib.hid hs
  have HC := Lib.hid (fun wx (a : Aft w wx) => (h.aft a).cells)
  obtain ⟨n, hn⟩ : ∃ n, l.length = n := ⟨_, rfl⟩
  have HN := Lib.hid hn
  rw [hn] at HC ho1
  have hnb : n ≤ 100000000000 := by have := sumF_len l; omega
  clear h hoc hop hs hn
  go_enter Tryd.func33, Tryd.ntmps33
  go_wp2_with fail
  go_loopw [3, 4] (fun v3 v4 wr => ∃ (k s : Nat), k ≤ n ∧ v4 = .int .i64 (k : Int) ∧ v3 = .int .i64 (s : Int) ∧ Hid (sumF (l.take k) = s) ∧ Hid (Aft w wr)) (fun _ v4 _ => n - (intOf v4).toNat)
  case atStart => exact ⟨0, 0, by omega, by go_num, by go_num, Lib.hid rfl, Lib.hid (Aft.refl _)⟩
  case round =>
    obtain ⟨k, s, hk, rfl, rfl, HX, HA⟩ := hrel
    obtain ⟨c0, c1, -, -⟩ := HC.out _ HA.out
    by_cases hlt : k < n
    · have hkl : k < l.length := by rw [HN.out]; exact hlt
      obtain ⟨x0, x1⟩ := HOC.out k hkl
      have hne : l ≠ [] := by intro e; rw [e] at hkl; simp at hkl
      obtain ⟨rfl, hog⟩ := HOP.out hne
      have htk : l.take (k + 1) = l.take k ++ [l[k]] := List.take_succ_eq_append_getElem hkl
      have hsum : sumF (l.take (k + 1)) = s + fsize l[k] := by
        rw [htk, sumF_append, HX.out]
        simp [sumF]
      have hle := sumF_take l (k + 1)
      have hb := HSS.out
      rw [hsum] at hle
      have x0' : wr.cell? ⟨og, k * 2, none⟩ = some (strV l[k].1) := by rw [Below.cell HA.out.to (p := ⟨og, k * 2, none⟩) hog]; exact x0
      have x1' : wr.cell? ⟨og, k * 2 + 1, none⟩ = some (strV l[k].2) := by rw [Below.cell HA.out.to (p := ⟨og, k * 2 + 1, none⟩) hog]; exact x1
      have HSUM := Lib.hid hsum
      clear x0 x1 htk hne hog hsum
      generalize l[k] = f at x0' x1' hle HSUM
      clear hkl
      have HBY := Lib.hid (fun w => rbytes_any f (by omega) w)
      obtain ⟨f1, f2'⟩ := f
      unfold fieldV at HBY
      unfold strV at x0' x1'
      simp only at x0' x1' HBY
      obtain ⟨q, hq⟩ : ∃ q, fsize (f1, f2') = q := ⟨_, rfl⟩
      rw [hq] at HBY hle HSUM
      have hki : (k : Int) < (n : Int) := by omega
      have g1 : IntKind.i64.wrap ((s : Int) + (q : Int)) = (s : Int) + (q : Int) := IntWalk.i64_in _ (by omega)
      clear hq
      go_wp2_with fail
      refine (HBY.out _).mono ?_
      rintro e w5 ⟨rfl, a5⟩
      have HA5 := Lib.hid (HA.out.trans a5)
      clear a5 c0 c1 x0' x1'
      go_wp2_with fail
      go_roundw
      case rel => exact ⟨k + 1, s + q, by omega, by go_num, congrArg (Value.int .i64) (by push_cast; omega), Lib.hid HSUM.out, HA5⟩
      case measure => simp [intOf]; omega
    · obtain rfl : k = n := by omega
      have HE : Hid (sumF l = s) := Lib.hid (by rw [← HX.out, ← HN.out, List.take_length])
      go_wp2_with fail
      go_ret
      exact ⟨ret_int (by rw [HE.out]), HA.out⟩

set_option maxHeartbeats 8000000 in
theorem rfit_any {w : World} {B g : Nat} {vo : Value} {l : List FieldL} {most : Int} (room : Int) (h : RTab w B g vo l most) (hs : sumF l ≤ 1000000000000) (hm : most - room ≤ 9000000000000000000 ∧ -9000000000000000000 ≤ most - room) :
    Calls Tryd.prog 61 #[.pointer (some ⟨g, 0, none⟩), .int .i64 room] w fun e w' => e = .returned (.tuple #[]) ∧ ∃ vo', RTab w' B g vo' (fitF (most - room) l) most ∧ Chg (fun k => k = g) w w' ∧ ∀ k, vo'.ownBlock = some k → vo.ownBlock = some k := by
  obtain ⟨a, n, c, rfl, -, hnc, hcm⟩ : ∃ (a : Option Addr) (n c : Nat), vo = .slice a n c ∧ n = l.length ∧ n ≤ c ∧ c ≤ maxLen := by
    obtain ⟨a, c, h1, h2, h3⟩ := h.own.slice
    exact ⟨a, l.length, c, h1, rfl, h2, h3⟩
  have hn : n = l.length := by
    obtain ⟨a', c', h1, -⟩ := h.own.slice
    injection h1
  subst hn
  unfold maxLen at hcm
  obtain ⟨M, hM⟩ : ∃ M, most - room = M := ⟨_, rfl⟩
  have gm : IntKind.i64.wrap (most - room) = M := (IntWalk.i64_in _ (by omega)).trans hM
  rw [hM]
  have H := Lib.hid h
  have HSS := Lib.hid hs
  clear h hs hm hM
  go_enter Tryd.func61, Tryd.ntmps61
  go_wp2_with fail
  go_loopw [] (fun wr => ∃ k, k ≤ l.length ∧ Hid (RTab wr B g (.slice a k c) (l.take k) most) ∧ Hid (fitF M (l.take k) = fitF M l) ∧ Hid (Chg (fun k => k = g) w wr)) (fun wr => lenAt g wr)
  case atStart => exact ⟨l.length, Nat.le_refl _, Lib.hid (by rw [List.take_length]; exact H.out), Lib.hid (by rw [List.take_length]), Lib.hid (Chg.refl _ _)⟩
  case round =>
    obtain ⟨k, hk, HT, HF, HC⟩ := hrel
    have hlen : lenAt g wr = k := by
      unfold lenAt
      rw [HT.out.cells.1]
    have HLEN := Lib.hid hlen
    have hle := sumF_take l k
    have HSZ := Lib.hid (fun wx (a : Aft wr wx) => rsize_any (HT.out.aft a) (Nat.le_trans hle HSS.out))
    by_cases hk0 : 0 < k
    · obtain ⟨j, rfl⟩ : ∃ j, k = j + 1 := ⟨k - 1, by omega⟩
      have hjl : j < l.length := by omega
      have hj1 : ((j + 1 : Nat) : Int) > 0 := by omega
      have hjz : (0 : Int) < (j : Int) + 1 := by omega
      have hjb : j < 9223372036854775807 := by omega
      have HJB := Lib.hid hjb
      have HJL := Lib.hid hjl
      obtain ⟨S, hS⟩ : ∃ S, sumF (l.take (j + 1)) = S := ⟨_, rfl⟩
      rw [hS] at HSZ hle
      have HS := Lib.hid hS
      clear hlen hjl hk hS hjb
      go_wp2_with fail
      have HD0 : Aft wr wr := Aft.refl _
      refine wp_region_held_drew (S := fun wx => Aft wr wx) (by kernel_rfl) ((Aft.refl _).drew) (fun hHeld => ?_)
      refine wpAnyH_take (i := 0) (oi := { dst := some 4, op := Go.Op.move (Go.Operand.tmp 0), type := 43, pos := _, after := _, guard := _ }) (v := ?_) rfl (by kernel_rfl) (by kernel_rfl) (by kernel_rfl) (fun _ _ _ h => h) (Or.inl ⟨by rfl, ?_⟩) (by exact hHeld) ?_
      rotate_left
      · intro w hSw; go_simp; try with_reducible rfl
      try simp only [Act.put]
      try simp only [List.setIfInBounds_toArray]
      try simp only [List.set]
      refine wpAnyH_take (i := 1) (oi := { dst := some 5, op := Go.Op.nilCheck (Go.Operand.tmp 4), type := 0, pos := _, after := _, guard := _ }) (v := ?_) rfl (by kernel_rfl) (by kernel_rfl) (by kernel_rfl) (fun _ _ _ h => h) (Or.inl ⟨by rfl, ?_⟩) (by exact hHeld) ?_
      rotate_left
      · intro w hSw; go_simp; try with_reducible rfl
      try simp only [Act.put]
      try simp only [List.setIfInBounds_toArray]
      try simp only [List.set]
      refine wpAnyH_take (i := 2) (oi := { dst := some 6, op := Go.Op.fieldAddr 49 (Go.Operand.tmp 5) 0, type := 0, pos := _, after := _, guard := _ }) (v := ?_) rfl (by kernel_rfl) (by kernel_rfl) (by kernel_rfl) (fun _ _ _ h => h) (Or.inl ⟨by rfl, ?_⟩) (by exact hHeld) ?_
      rotate_left
      · intro w hSw; go_simp; try with_reducible rfl
      try simp only [Act.put]
      try simp only [List.setIfInBounds_toArray]
      try simp only [List.set]
      refine wpAnyH_take (i := 3) (oi := { dst := some 7, op := Go.Op.load 47 (Go.Operand.tmp 6), type := 47, pos := _, after := _, guard := _ }) (v := ?_) rfl (by kernel_rfl) (by kernel_rfl) (by kernel_rfl) (fun _ _ _ h => h) (Or.inl ⟨by rfl, ?_⟩) (by exact hHeld) ?_
      rotate_left
      · intro w hSw; obtain ⟨c0, c1, f0, f1⟩ := (HT.out.aft hSw).cells; go_simp; try with_reducible rfl
      try simp only [Act.put]
      try simp only [List.setIfInBounds_toArray]
      try simp only [List.set]
      refine wpAnyH_take (i := 4) (oi := { dst := some 8, op := Go.Op.call { callee := Go.Callee.builtin Go.Builtin.len, args := #[Go.Operand.tmp 7], argTypes := #[47] }, type := 3, pos := _, after := _, guard := _ }) (v := ?_) rfl (by kernel_rfl) (by kernel_rfl) (by kernel_rfl) (fun _ _ _ h => h) (Or.inl ⟨by rfl, ?_⟩) (by exact hHeld) ?_
      rotate_left
      · intro w hSw; go_simp; try with_reducible rfl
      try simp only [Act.put]
      try simp only [List.setIfInBounds_toArray]
      try simp only [List.set]
      refine wpAnyH_take (i := 5) (oi := { dst := some 9, op := Go.Op.binOp Go.BinOp.gtr 3 (Go.Operand.tmp 8) (Go.Operand.const (Go.Value.int Go.IntKind.i64 0)) 3, type := 4, pos := _, after := _, guard := _ }) (v := ?_) rfl (by kernel_rfl) (by kernel_rfl) (by kernel_rfl) (fun _ _ _ h => h) (Or.inl ⟨by rfl, ?_⟩) (by exact hHeld) ?_
      rotate_left
      · intro w hSw; go_simp; try with_reducible rfl
      try simp only [Act.put]
      try simp only [List.setIfInBounds_toArray]
      try simp only [List.set]
      refine wpAnyH_take (i := 6) (oi := { dst := some 10, op := Go.Op.move (Go.Operand.tmp 9), type := 4, pos := _, after := _, guard := _ }) (v := ?_) rfl (by kernel_rfl) (by kernel_rfl) (by kernel_rfl) (fun _ _ _ h => h) (Or.inl ⟨by rfl, ?_⟩) (by exact hHeld) ?_
      rotate_left
      · intro w hSw; go_simp; try with_reducible rfl
      try simp only [Act.put]
      try simp only [List.setIfInBounds_toArray]
      try simp only [List.set]
      refine wpAnyH_take (i := 7) (oi := { dst := some 11, op := Go.Op.move (Go.Operand.tmp 0), type := 43, pos := _, after := _, guard := _ }) (v := ?_) rfl (by kernel_rfl) (by kernel_rfl) (by kernel_rfl) (fun _ _ _ h => h) (Or.inl ⟨by rfl, ?_⟩) (by exact hHeld) ?_
      rotate_left
      · intro w hSw; go_simp; try with_reducible rfl
      try simp only [Act.put]
      try simp only [List.setIfInBounds_toArray]
      try simp only [List.set]
      refine wpAnyH_take (i := 9) (oi := { dst := some 13, op := Go.Op.move (Go.Operand.tmp 0), type := 43, pos := _, after := _, guard := _ }) (v := ?_) rfl (by kernel_rfl) (by kernel_rfl) (by kernel_rfl) (fun _ _ _ h => h) (Or.inl ⟨by rfl, ?_⟩) (by exact hHeld) ?_
      rotate_left
      · intro w hSw; go_simp; try with_reducible rfl
      try simp only [Act.put]
      try simp only [List.setIfInBounds_toArray]
      try simp only [List.set]
      refine wpAnyH_take (i := 10) (oi := { dst := some 14, op := Go.Op.nilCheck (Go.Operand.tmp 13), type := 0, pos := _, after := _, guard := _ }) (v := ?_) rfl (by kernel_rfl) (by kernel_rfl) (by kernel_rfl) (fun _ _ _ h => h) (Or.inl ⟨by rfl, ?_⟩) (by exact hHeld) ?_
      rotate_left
      · intro w hSw; go_simp; try with_reducible rfl
      try simp only [Act.put]
      try simp only [List.setIfInBounds_toArray]
      try simp only [List.set]
      refine wpAnyH_take (i := 11) (oi := { dst := some 15, op := Go.Op.fieldAddr 49 (Go.Operand.tmp 14) 1, type := 0, pos := _, after := _, guard := _ }) (v := ?_) rfl (by kernel_rfl) (by kernel_rfl) (by kernel_rfl) (fun _ _ _ h => h) (Or.inl ⟨by rfl, ?_⟩) (by exact hHeld) ?_
      rotate_left
      · intro w hSw; go_simp; try with_reducible rfl
      try simp only [Act.put]
      try simp only [List.setIfInBounds_toArray]
      try simp only [List.set]
      refine wpAnyH_take (i := 12) (oi := { dst := some 16, op := Go.Op.load 3 (Go.Operand.tmp 15), type := 3, pos := _, after := _, guard := _ }) (v := ?_) rfl (by kernel_rfl) (by kernel_rfl) (by kernel_rfl) (fun _ _ _ h => h) (Or.inl ⟨by rfl, ?_⟩) (by exact hHeld) ?_
      rotate_left
      · intro w hSw; obtain ⟨c0, c1, f0, f1⟩ := (HT.out.aft hSw).cells; go_simp; try with_reducible rfl
      try simp only [Act.put]
      try simp only [List.setIfInBounds_toArray]
      try simp only [List.set]
      refine wpAnyH_take (i := 13) (oi := { dst := some 17, op := Go.Op.move (Go.Operand.tmp 1), type := 3, pos := _, after := _, guard := _ }) (v := ?_) rfl (by kernel_rfl) (by kernel_rfl) (by kernel_rfl) (fun _ _ _ h => h) (Or.inl ⟨by rfl, ?_⟩) (by exact hHeld) ?_
      rotate_left
      · intro w hSw; go_simp; try with_reducible rfl
      try simp only [Act.put]
      try simp only [List.setIfInBounds_toArray]
      try simp only [List.set]
      refine wpAnyH_take (i := 14) (oi := { dst := some 18, op := Go.Op.binOp Go.BinOp.sub 3 (Go.Operand.tmp 16) (Go.Operand.tmp 17) 3, type := 3, pos := _, after := _, guard := _ }) (v := ?_) rfl (by kernel_rfl) (by kernel_rfl) (by kernel_rfl) (fun _ _ _ h => h) (Or.inl ⟨by rfl, ?_⟩) (by exact hHeld) ?_
      rotate_left
      · intro w hSw; go_simp; try with_reducible rfl
      try simp only [Act.put]
      try simp only [List.setIfInBounds_toArray]
      try simp only [List.set]
      refine wpAnyH_ready (rs := [8]) (by kernel_rfl) (by simp) ?_
      refine AllReadyH.cons (o := { dst := some 12, op := Go.Op.call { callee := Go.Callee.value (Go.Operand.func 33), args := #[Go.Operand.tmp 11], argTypes := #[43] }, type := 3, pos := _, after := _, guard := _ }) rfl (fun K hK => ?_) AllReadyH.nil
      go_simp
      refine (HSZ.out _ hHeld).mono ?_
      rintro e w6 ⟨rfl, a6⟩
      have hS2 := hHeld.trans a6
      clear hHeld
      refine hK.out _ _ hS2 (fun hHeld => ?_)
      clear hK K hS2
      try simp only [Act.put]
      try simp only [List.setIfInBounds_toArray]
      try simp only [List.set]
      refine wpAnyH_take (i := 15) (oi := { dst := some 19, op := Go.Op.binOp Go.BinOp.gtr 3 (Go.Operand.tmp 12) (Go.Operand.tmp 18) 3, type := 4, pos := _, after := _, guard := _ }) (v := ?_) rfl (by kernel_rfl) (by kernel_rfl) (by kernel_rfl) (fun _ _ _ h => h) (Or.inl ⟨by rfl, ?_⟩) (by exact hHeld) ?_
      rotate_left
      · intro w hSw; go_simp; try with_reducible rfl
      try simp only [Act.put]
      try simp only [List.setIfInBounds_toArray]
      try simp only [List.set]
      refine wpAnyH_take (i := 16) (oi := { dst := some 20, op := Go.Op.pick (Go.Operand.tmp 10) (Go.Operand.tmp 19) (Go.Operand.const (Go.Value.bool false)), type := 4, pos := _, after := _, guard := _ }) (v := ?_) rfl (by kernel_rfl) (by kernel_rfl) (by kernel_rfl) (fun _ _ _ h => h) (Or.inl ⟨by rfl, ?_⟩) (by exact hHeld) ?_
      rotate_left
      · intro w hSw; go_simp; try with_reducible rfl
      try simp only [Act.put]
      try simp only [List.setIfInBounds_toArray]
      try simp only [List.set]
      refine wpAnyH_done (by kernel_rfl) ?_ _
      have HT6 := Lib.hid (HT.out.aft hHeld)
      have HC6 := Lib.hid (HC.out.aft hHeld)
      have HL6 : Hid (lenAt g _ = j + 1) := Lib.hid (show lenAt g _ = j + 1 by unfold lenAt; rw [HT6.out.cells.1])
      clear hHeld HD0
      by_cases hsm : (S : Int) > M
      · have htk : l.take (j + 1) = l.take j ++ [l[j]'HJL.out] := List.take_succ_eq_append_getElem HJL.out
        have hne : l.take (j + 1) ≠ [] := by rw [htk]; exact List.append_ne_nil_of_right_ne_nil _ (by simp)
        obtain ⟨a', gb, k', e1, -, -, hp, -⟩ := HT6.out.own.form
        injection e1 with e1 e2 e3
        subst e1
        obtain ⟨rfl, hgb⟩ := hp hne
        have hgo := fitF_go (m := M) (l := l.take (j + 1)) (by
          intro hh
          rcases hh with hh | hh
          · exact hne hh
          · have := HS.out; omega)
        rw [htk, List.dropLast_concat, ← htk] at hgo
        have HGO := Lib.hid hgo
        have HO' : Hid (OwnF w6 B (.slice (some ⟨gb, 0, none⟩) j c) (l.take j)) := Lib.hid (by
          have := HT6.out.own.take j (by rw [List.length_take]; have := HJL.out; omega)
          rwa [List.take_take, Nat.min_eq_left (by omega)] at this)
        have HT7 := Lib.hid (fun (w7 : World) (a7 : Aft w6 w7) => (HT6.out.aft a7).upd (HO'.out.aft a7) (fun k hk => hk))
        obtain ⟨c0, c1, f0, f1⟩ := HT6.out.cells
        have g2 : IntKind.i64.wrap (((j + 1 : Nat) : Int) - 1) = (j : Int) := by rw [show ((j + 1 : Nat) : Int) - 1 = (j : Int) by omega]; exact IntWalk.i64_in _ (by have := HJB.out; omega)
        have g3 : ((j + 1 : Nat) : Int) - 1 = (j : Int) := by omega
        have g5 : IntKind.i64.wrap ((j : Int) + 1 - 1) = (j : Int) := by rw [show (j : Int) + 1 - 1 = (j : Int) by omega]; exact IntWalk.i64_in _ (by have := HJB.out; omega)
        have hjc : (j : Int) ≤ (c : Int) := by have := HJL.out; omega
        have hjc2 : j ≤ c := by omega
        clear htk hne hp hgo hgb e2 e3 c1 f1
        go_wp2_with fail
        go_region
        all_goals
          go_wp2_with fail
          go_roundw
          case rel => exact ⟨j, by have := HJL.out; omega, Lib.hid ((HT7.out _ (Aft.refl _)).aft ((Aft.refl _).drew)), Lib.hid (HGO.out.symm.trans HF.out), Lib.hid ((HC6.out.set g 0 (.slice (some ⟨gb, 0, none⟩) j c) (Or.inl rfl)).aft ((Aft.refl _).drew))⟩
          case measure =>
            have e1 := HLEN.out
            rw [e1]
            unfold lenAt
            rw [((HT7.out _ (Aft.refl _)).aft ((Aft.refl _).drew)).cells.1]
            exact Nat.lt_succ_self _
      · have hst : fitF M l = l.take (j + 1) := by rw [← HF.out, fitF_stop (Or.inr (by rw [HS.out]; omega))]
        have HST := Lib.hid hst
        clear hst
        go_wp2_with fail
        go_end0
        refine ⟨rfl, .slice a (j + 1) c, by rw [HST.out]; exact HT6.out, HC6.out, fun k hk => by cases a <;> exact hk⟩
    · obtain rfl : k = 0 := by omega
      have hst : fitF M l = [] := by rw [← HF.out, List.take_zero, fitF_stop (Or.inl rfl)]
      have HST := Lib.hid hst
      rw [List.take_zero] at HT
      have HT2 := Lib.hid HT.out
      obtain ⟨c0, c1, f0, f1⟩ := HT2.out.cells
      clear hst hlen HLEN hk hk0 HF HSZ hle HT c1 f0 f1
      go_wp2_with fail
      go_quiet (fail)
      go_wp2_with fail
      go_end0
      refine ⟨rfl, .slice a 0 c, by rw [HST.out]; exact HT2.out.aft ((Aft.refl _).drewN _), HC.out.aft ((Aft.refl _).drewN _), fun k hk => by cases a <;> exact hk⟩

end Go.Proofs.YtmlnboibclfmcaaDoor
