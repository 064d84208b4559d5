/-
  The walk of the reference's Decode.
-/
import Derived.Test.YtmlnboibclfmcaaDoorHuffRMade
import Derived.Test.YtmlnboibclfmcaaDoorHuffSz
import Derived.Test.YtmlnboibclfmcaaDoorSame
import Derived.RegionTactic
namespace Go.Proofs.YtmlnboibclfmcaaDoor
open Go.RowKit

theorem RFE_first (n : Nat) (h : n ≤ 30) : RF 30 257 n = firstF n := by
  unfold RF
  rw [if_pos (by omega), if_pos h]
theorem RFE_many (n : Nat) (h : n ≤ 30) : RF 30 257 (31 + n) = count 257 n := by
  unfold RF
  rw [if_neg (by omega), if_pos (by omega), show 31 + n - 31 = n by omega]
  by_cases e : n < 30
  · rw [if_pos e]
  · rw [if_neg e, if_pos (by omega), show n = 30 by omega]
theorem RFE_from (n : Nat) (h : n ≤ 30) : RF 30 257 (62 + n) = startF n := by
  unfold RF
  rw [if_neg (by omega), if_neg (by omega), show 62 + n - 62 = n by omega, if_pos h]
theorem OwnI.cell {w : World} {base g k : Nat} {l : List Int} (h : OwnI w base (.slice (some ⟨g, 0, none⟩) l.length k) l) (j : Nat) (hj : j < l.length) : w.cell? ⟨g, j, none⟩ = some (.int .i64 l[j]) := by
  have hx := World.ownsRow.cellAt h j (by omega)
  rw [hx]
  unfold iv
  rw [List.getElem?_map, List.getElem?_eq_getElem hj]
  rfl
theorem OwnI.form {w : World} {base : Nat} {v : Value} {l : List Int} (h : OwnI w base v l) (hl : 0 < l.length) : ∃ g k, v = .slice (some ⟨g, 0, none⟩) l.length k ∧ base ≤ g ∧ g < w.heap.size := by
  obtain ⟨h1, ⟨e, h0⟩ | ⟨g, cap, cur, e, hb, hg, _⟩⟩ := id h
  · omega
  · exact ⟨g, cap, e, hb, (OwnI.lt h g (by rw [e]; rfl)).2⟩
theorem ones_step {c x : Int} {n : Nat} (_ : 0 ≤ c) (_ : c < 2 ^ n) (hx : 0 ≤ x ∧ x ≤ 1) : (decide (c = 2 ^ n - 1) && (x == 1)) = decide (2 * c + x = 2 ^ (n + 1) - 1) := by
  rw [Int.pow_succ]
  by_cases a : c = 2 ^ n - 1
  · by_cases b : x = 1
    · simp [a, b]; omega
    · have : ¬ (2 * c + x = 2 ^ n * 2 - 1) := by omega
      simp [b, this]
  · have : ¬ (2 * c + x = 2 ^ n * 2 - 1) := by omega
    simp [a, this]

theorem rbit_step {l : List UInt8} {k : Nat} (hk : k / 8 < l.length) (c : Int) (c0 : 0 ≤ c) (c1 : c < 2147483648) :
    bits .and .i64 (wrap64 ((l[k / 8].toNat : Int) / 2 ^ (7 - k % 8))) 1 = bitL l k ∧ bits .or .i64 (c * 2) (bitL l k) = 2 * c + bitL l k := by
  have hb := (l[k / 8]).toNat_lt
  have hq : ((l[k / 8].toNat : Int) / 2 ^ (7 - k % 8)) = ((l[k / 8].toNat / 2 ^ (7 - k % 8) : Nat) : Int) := by
    rw [Int.natCast_ediv]
    norm_cast
  have hle : l[k / 8].toNat / 2 ^ (7 - k % 8) ≤ l[k / 8].toNat := Nat.div_le_self _ _
  have hbl : bitL l k = ((l[k / 8].toNat / 2 ^ (7 - k % 8) : Nat) : Int) % 2 := by
    unfold bitL
    rw [show l.getD (k / 8) 0 = l[k / 8] by simp [List.getD, List.getElem?_eq_getElem hk]]
    rw [Int.natCast_emod]
    rfl
  rw [hq, hbl]
  generalize l[k / 8].toNat / 2 ^ (7 - k % 8) = q at *
  rw [IntWalk.wrap64_in _ ⟨by omega, by omega⟩]
  have h1 := bits_mask .i64 63 (by decide) wraps_i64 1 (by decide) (q : Int) (by omega) (by omega)
  rw [show ((2 : Int) ^ 1 - 1) = 1 by decide, show ((2 : Int) ^ 1) = 2 by decide] at h1
  rw [h1]
  refine ⟨rfl, ?_⟩
  rw [bits_join .i64 63 (by decide) wraps_i64 1 (c * 2) ((q : Int) % 2) (by omega) (by omega) (by omega) (by omega) (by omega) (by omega)]
  omega
theorem symF_cases (C : Int) (N : Nat) (hN : N ≤ 30) (h : firstF N ≤ C) : (count 257 N ≤ C - firstF N ∧ symF C N = -1) ∨ (C - firstF N < count 257 N ∧ symF C N = ordF 257 (startF N + (C - firstF N)).toNat ∧ 0 ≤ startF N + (C - firstF N) ∧ startF N + (C - firstF N) < 257) := by
  have s0 := start_bd N (by omega)
  have s1 := start_bd (N + 1) (by omega)
  have se : startF (N + 1) = startF N + count 257 N := rfl
  unfold symF
  by_cases hc : count 257 N ≤ C - firstF N
  · exact Or.inl ⟨hc, by rw [if_pos (Or.inr hc)]⟩
  · exact Or.inr ⟨by omega, by rw [if_neg (by omega)], by omega, by omega⟩

set_option maxRecDepth 100000 in
set_option maxHeartbeats 4000000 in
theorem rdecode_any (v : Value) (l : List UInt8) (w : World) (hr : Rb w v l) (hlen : l.length ≤ 100000000000) :
    Calls Tryd.prog 99 #[v] w fun e w' => e = .returned (.tuple #[.string ⟨(decF l).1.toArray⟩, .int .i64 (decF l).2]) ∧ Aft w w' := by
  have hzv := zeroBook
  obtain ⟨pa, pc, pb, off, rfl, m1, p1, q1, r1⟩ := hr.open
  have R1 := Lib.hid r1
  have P1 := Lib.hid p1
  have Q1 := Lib.hid q1
  unfold maxLen at m1
  clear r1 p1 q1 hr
  go_enter Tryd.func99, Tryd.ntmps99
  go_wp2_with fail
  refine (rmade_any _).mono ?_
  rintro e w1 ⟨sv, rfl, ho, ha⟩
  have hsl : ((List.range 257).map (ordF 257)).length = 257 := by simp
  obtain ⟨gs, ks, rfl, hgs, hgs2⟩ := OwnI.form ho (by rw [hsl]; decide)
  rw [hsl] at ho
  obtain ⟨R, hRR⟩ : ∃ R, R = (rrow (RF 30 257) (.slice (some ⟨gs, 0, none⟩) 257 ks)).toArray := ⟨_, rfl⟩
  rw [hsl, ← hRR]
  have hsz : (Tryd.prog.info? 158).map (·.size) = some R.size := by rw [sizeBook, hRR]; simp [rrow_len]
  have hone : R.all (·.oneCell') = true := by
    rw [hRR]
    simp [rrow, Value.oneCell']
  have hold : (rrow (fun _ => 0) (.slice none 0 0)).toArray.size = R.size := by rw [hRR]; simp [rrow_len]
  have HRR := Lib.hid hRR
  have HO := Lib.hid ho
  have hnew := heap_alloc_new w1 (.cells (rrow (fun _ => 0) (.slice none 0 0)).toArray 158)
  clear hRR hsl ho
  go_wp2_with (first | (refine wpList_store_rowTo rfl 158 (.tmp 4) (.tmp 13) rfl rfl w1.heap.size R rfl rfl _ _ hnew hsz hold hone ?_))
  have hA0 : RB ((w1.alloc (.cells (rrow (fun _ => 0) (.slice none 0 0)).toArray 158)).setRow w1.heap.size R) w1.heap.size (RF 30 257) (.slice (some ⟨gs, 0, none⟩) 257 ks) := by
    have := setRow_heap (w1.alloc (.cells (rrow (fun _ => 0) (.slice none 0 0)).toArray 158)) w1.heap.size (rrow (fun _ => 0) (.slice none 0 0)).toArray R 158 (0, 0) hnew
    unfold RB
    rw [← HRR.out]
    exact this
  have hB0 : Below w1.heap.size w1 ((w1.alloc (.cells (rrow (fun _ => 0) (.slice none 0 0)).toArray 158)).setRow w1.heap.size R) := below_setRow ((Below.refl _ _).alloc (Nat.le_refl _) _) (Nat.le_refl _) R
  have HO0 := Lib.hid (OwnI.aft HO.out hB0)
  have ha0 : Aft w ((w1.alloc (.cells (rrow (fun _ => 0) (.slice none 0 0)).toArray 158)).setRow w1.heap.size R) := ha.trans hB0
  have HA0 := Lib.hid hA0
  clear HO hB0 ha hnew hsz hone hold HRR hzv hA0 hgs2
  obtain ⟨g, hg⟩ : ∃ g, w1.heap.size = g := ⟨_, rfl⟩
  generalize (w1.alloc (.cells (rrow (fun _ => 0) (.slice none 0 0)).toArray 158)).setRow w1.heap.size R = W1 at *
  rw [hg] at HA0 ⊢
  clear hg w1
  have hB : Below W1.heap.size W1 W1 := Below.refl _ _
  have hgW : g < W1.heap.size := RB.lt HA0.out
  go_loopw [5, 6, 7, 8, 9, 10, 11, 12] (fun vo vc vn vb vk _ _ _ wr => ∃ (k n : Nat) (c : Int) (o : List UInt8), k ≤ 8 * l.length ∧ vk = .int .i64 (k : Int) ∧ vc = .int .i64 c ∧ vn = .int .i64 (n : Int) ∧ vb = .bool (decide (c = 2 ^ n - 1)) ∧ Inv c n ∧ o.length ≤ k ∧ Hid (drun l k = some (o, c, n)) ∧ Own wr W1.heap.size vo o ∧ Below W1.heap.size W1 wr) (fun _ _ _ _ vk _ _ _ _ => 8 * l.length - (intOf vk).toNat)
  case atStart => exact ⟨0, 0, 0, [], by omega, by go_num, rfl, by go_num, rfl, inv_zero, by simp, Lib.hid rfl, Own.nil _ _, hB⟩
  case round =>
    obtain ⟨k, n, c, o, hk, rfl, rfl, rfl, rfl, hinv, hol, HD, hown, hbel⟩ := hrel
    have HAr := Lib.hid (RB.aft HA0.out (Below.mono hbel (Nat.le_refl _)))
    have HOr := Lib.hid (OwnI.aft HO0.out (Below.mono hbel (Nat.le_refl _)))
    have ⟨c0, c1, c2, n1⟩ := hinv
    have c3 := pow_le30 (n := n) (by omega)
    by_cases hlt : k < 8 * l.length
    · have hk8 : k / 8 < l.length := by omega
      have hne : l ≠ [] := by intro e; rw [e] at hk8; simp at hk8
      have hpa := P1.out hne
      have hc8 : wr.cell? ⟨pb, off + k / 8, none⟩ = some (.int .u8 (l[k / 8].toNat : Int)) := by
        rw [Below.cell hbel (p := ⟨pb, off + k / 8, none⟩) (by have := Q1.out hne; have := ha0.size; show pb < _; omega), Below.cell ha0.to (p := ⟨pb, off + k / 8, none⟩) (Q1.out hne)]
        exact R1.out _ hk8
      have m8 : k % 8 < 8 := by omega
      have c4 : c < 2147483648 := by omega
      obtain ⟨x0, x1⟩ := bitL_bd l k
      obtain ⟨i0, i1, i2⟩ := inv_step hinv ⟨x0, x1⟩
      have i3 := pow_le30 (n := n + 1) (by omega)
      have hin := inv_none (c := c) (x := bitL l k) (n := n) hinv ⟨x0, x1⟩
      have hst : drun l (k + 1) = dstep (o, c, n) (bitL l k) := by simp only [drun, HD.out, Option.bind_some]
      unfold dstep at hst
      simp only at hst
      have hC : 2 * c + bitL l k ≤ 4294967296 := by omega
      have hstep1 := ones_step (c := c) (x := bitL l k) (n := n) c0 c1 ⟨x0, x1⟩
      obtain ⟨hb1, hb2⟩ := rbit_step hk8 c c0 c4
      have hsc := symF_cases (2 * c + bitL l k) (n + 1) (by omega) i2
      have hfb := first_bd (n + 1) (by omega)
      have hcb := count_bd 257 (n + 1)
      have hstb := start_bd (n + 1) (by omega)
      have k1 := RB.cell HAr.out (i := n + 1) (by omega)
      have k2 := RB.cell HAr.out (i := 31 + (n + 1)) (by omega)
      have k3 := RB.cell HAr.out (i := 62 + (n + 1)) (by omega)
      rw [RFE_first _ (by omega)] at k1
      rw [RFE_many _ (by omega)] at k2
      rw [RFE_from _ (by omega)] at k3
      have k4 := RB.last HAr.out
      generalize (l[k / 8]).toNat = y at *
      generalize hCC : 2 * c + bitL l k = C at *
      generalize hxx : bitL l k = x at *
      have HXX := Lib.hid hxx
      have HCC := Lib.hid hCC
      have HST := Lib.hid hst
      have HIN := Lib.hid hin
      have HSC := Lib.hid hsc
      have HS1 := Lib.hid hstep1
      generalize firstF (n + 1) = F at *
      generalize count 257 (n + 1) = M at *
      generalize startF (n + 1) = S at *
      obtain ⟨b, HBb⟩ : ∃ b, Hid (decide (c = 2 ^ n - 1) = b) := ⟨_, Lib.hid rfl⟩
      rw [HBb.out] at HS1 ⊢
      subst hpa
      have n2 : (n : Int) + 1 < 31 := by omega
      clear hxx hCC hst hin hsc hstep1 c1 c2 c3 i1 i3
      rcases HSC.out with ⟨hM, hy⟩ | ⟨hM, hy, hi0, hi1⟩
      · have HY := Lib.hid hy
        have hdM : decide (C - F < M) = false := by simp; omega
        clear hy HSC
        have hstep : drun l (k + 1) = some (o, C, n + 1) := by
          rw [HST.out, HY.out, if_neg (by omega), if_neg (by omega)]
        have HS := Lib.hid hstep
        have HI2 := Lib.hid (HIN.out (by rw [HY.out]; omega))
        clear hstep
        cases b
        · go_wp2_with fail
          go_roundw
          case rel => exact ⟨k + 1, n + 1, C, o, by omega, by go_num, rfl, by go_num, by rw [← HS1.out]; rfl, HI2.out, by omega, HS, hown, hbel⟩
          case measure => simp [intOf]; omega
        · go_wp2_with fail
          go_roundw
          case rel => exact ⟨k + 1, n + 1, C, o, by omega, by go_num, rfl, by go_num, by rw [← HS1.out]; rfl, HI2.out, by omega, HS, hown, hbel⟩
          case measure => simp [intOf]; omega
      · have hdM : decide (C - F < M) = true := by simp; omega
        have hsl : ((List.range 257).map (ordF 257)).length = 257 := by simp
        have hoc := OwnI.cell (l := (List.range 257).map (ordF 257)) (by rw [hsl]; exact HOr.out) (S + (C - F)).toNat (by rw [hsl]; omega)
        rw [show ((List.range 257).map (ordF 257))[(S + (C - F)).toNat]'(by rw [hsl]; omega) = ordF 257 (S + (C - F)).toNat by simp] at hoc
        have hob := ord_nonneg (S + (C - F)).toNat (by omega)
        have e1 : IntKind.i64.wrap (S + (C - F)) = S + (C - F) := IntWalk.i64_in _ (by omega)
        generalize ordF 257 (S + (C - F)).toNat = Y at *
        have HY := Lib.hid hy
        clear hy HSC hsl
        by_cases h256 : Y = 256
        · have hfin : decF l = ([], 4) := by
            have := HST.out
            rw [HY.out, if_pos h256] at this
            unfold decF
            rw [drun_none this (by omega)]
          have HF := Lib.hid hfin
          have hyB : (Y == 256) = true := by simpa using h256
          clear hfin h256
          cases b
          · go_wp2_with fail
            go_region
            go_wp2_with fail
            go_ret2
            rw [HF.out]
            exact ⟨rfl, ha0.trans (Below.mono hbel.drew (Nat.le_refl _))⟩
          · go_wp2_with fail
            go_region
            go_wp2_with fail
            go_ret2
            rw [HF.out]
            exact ⟨rfl, ha0.trans (Below.mono hbel.drew (Nat.le_refl _))⟩
        · have hyB : (Y == 256) = false := by simpa using h256
          have hstep : drun l (k + 1) = some (o ++ [byteOf Y], 0, 0) := by
            rw [HST.out, HY.out, if_neg h256, if_pos hob.1]
          have HS := Lib.hid hstep
          have y2 : 0 ≤ Y := hob.1
          have y3 : Y < 256 := by omega
          clear hstep h256
          cases b
          · go_wp2_with fail
            go_region
            go_wp2_with (at_builtin; refine wpList_push rfl (.tmp 71) (.tmp 74) rfl W1.heap.size _ o rfl ((hown.drewN 1).aft ((Aft.refl _).alloc _)) ⟨wr.heap.size, 0, none⟩ 1 Y rfl (cell_new1 _ _ _) y2 y3 (by omega) (le_alloc hbel.size _) ?_; intro v' w3 hown3 hgrow)
            have hbel3 : Below W1.heap.size W1 w3 := push_below (hbel.drew.alloc hbel.size _) ((hown.drewN 1).aft ((Aft.refl _).alloc _)) hgrow (Nat.le_refl _) (le_alloc hbel.size _)
            go_wp2_with fail
            go_roundw
            case rel => exact ⟨k + 1, 0, 0, o ++ [byteOf Y], by omega, by go_num, rfl, by go_num, rfl, inv_zero, by simp; omega, HS, hown3, hbel3⟩
            case measure => simp [intOf]; omega
          · go_wp2_with fail
            go_region
            go_wp2_with (at_builtin; refine wpList_push rfl (.tmp 71) (.tmp 74) rfl W1.heap.size _ o rfl ((hown.drewN 1).aft ((Aft.refl _).alloc _)) ⟨wr.heap.size, 0, none⟩ 1 Y rfl (cell_new1 _ _ _) y2 y3 (by omega) (le_alloc hbel.size _) ?_; intro v' w3 hown3 hgrow)
            have hbel3 : Below W1.heap.size W1 w3 := push_below (hbel.drew.alloc hbel.size _) ((hown.drewN 1).aft ((Aft.refl _).alloc _)) hgrow (Nat.le_refl _) (le_alloc hbel.size _)
            go_wp2_with fail
            go_roundw
            case rel => exact ⟨k + 1, 0, 0, o ++ [byteOf Y], by omega, by go_num, rfl, by go_num, rfl, inv_zero, by simp; omega, HS, hown3, hbel3⟩
            case measure => simp [intOf]; omega
    · have hk8 : k = 8 * l.length := by omega
      have hcv := own_string hown
      have hfin : decF l = if 7 < n ∨ c ≠ 2 ^ n - 1 then ([], 4) else (o, 0) := by
        unfold decF
        rw [← hk8, HD.out]
      have HF := Lib.hid hfin
      clear hfin
      have hbw : Aft w wr := ha0.trans (Below.mono hbel (Nat.le_refl _))
      by_cases hn7 : 7 < n
      · have hf2 := HF.out
        rw [if_pos (Or.inl hn7)] at hf2
        have HF2 := Lib.hid hf2
        clear hf2 HF
        go_wp2_with fail
        go_ret2
        rw [HF2.out]
        exact ⟨rfl, hbw⟩
      · by_cases hones : c = 2 ^ n - 1
        · have hd : decide (c = 2 ^ n - 1) = true := by simpa using hones
          rw [hd]
          have hf2 := HF.out
          rw [if_neg (by omega)] at hf2
          have HF2 := Lib.hid hf2
          clear hf2 HF hones hd c1 c3
          go_wp2_with fail
          go_ret2
          rw [HF2.out]
          exact ⟨rfl, hbw⟩
        · have hd : decide (c = 2 ^ n - 1) = false := by simpa using hones
          rw [hd]
          have hf2 := HF.out
          rw [if_pos (Or.inr hones)] at hf2
          have HF2 := Lib.hid hf2
          clear hf2 HF hones hd c1 c3
          go_wp2_with fail
          go_ret2
          rw [HF2.out]
          exact ⟨rfl, hbw⟩

end Go.Proofs.YtmlnboibclfmcaaDoor
