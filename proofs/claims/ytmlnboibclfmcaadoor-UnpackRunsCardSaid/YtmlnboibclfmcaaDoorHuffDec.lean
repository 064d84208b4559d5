/-
  The walk of huff.Decode.
-/
import Derived.Test.YtmlnboibclfmcaaDoorHuffSym
import Derived.Test.YtmlnboibclfmcaaDoorBuf
namespace Go.Proofs.YtmlnboibclfmcaaDoor
open Go.RowKit

def bitL (l : List UInt8) (i : Nat) : Int := (((l.getD (i / 8) 0).toNat / 2 ^ (7 - i % 8) % 2 : Nat) : Int)
def dstep (st : List UInt8 × Int × Nat) (x : Int) : Option (List UInt8 × Int × Nat) :=
  let s := symF (2 * st.2.1 + x) (st.2.2 + 1)
  if s = 256 then none else if 0 ≤ s then some (st.1 ++ [byteOf s], 0, 0) else some (st.1, 2 * st.2.1 + x, st.2.2 + 1)
def drun (l : List UInt8) : Nat → Option (List UInt8 × Int × Nat)
  | 0 => some ([], 0, 0)
  | k + 1 => (drun l k).bind fun st => dstep st (bitL l k)
def decF (l : List UInt8) : List UInt8 × Int :=
  match drun l (8 * l.length) with
  | none => ([], 4)
  | some (o, c, n) => if 7 < n ∨ c ≠ 2 ^ n - 1 then ([], 4) else (o, 0)
theorem wraps_i64 (n : Int) (h₀ : 0 ≤ n) (h₁ : n < 2 ^ 63) : IntKind.i64.wrap n = n := IntWalk.i64_in _ ⟨by omega, by omega⟩
theorem bit_step {l : List UInt8} {k : Nat} (hk : k / 8 < l.length) (c : Int) (c0 : 0 ≤ c) (c1 : c < 2147483648) :
    bits .or .i64 (c * 2) (wrap64 (bits .and .u8 ((l[k / 8].toNat : Int) / 2 ^ (7 - k % 8)) 1)) = 2 * c + bitL l k := by
  have hb := (l[k / 8]).toNat_lt
  have hq : ((l[k / 8].toNat : Int) / 2 ^ (7 - k % 8)) = ((l[k / 8].toNat / 2 ^ (7 - k % 8) : Nat) : Int) := by
    rw [Int.natCast_ediv]
    norm_cast
  have hle : l[k / 8].toNat / 2 ^ (7 - k % 8) ≤ l[k / 8].toNat := Nat.div_le_self _ _
  have hbl : bitL l k = ((l[k / 8].toNat / 2 ^ (7 - k % 8) : Nat) : Int) % 2 := by
    unfold bitL
    rw [show l.getD (k / 8) 0 = l[k / 8] by simp [List.getD, List.getElem?_eq_getElem hk]]
    rw [Int.natCast_emod]
    rfl
  rw [hq, hbl]
  generalize l[k / 8].toNat / 2 ^ (7 - k % 8) = q at *
  have h1 := bits_mask .u8 8 (by decide) wraps_u8 1 (by decide) (q : Int) (by omega) (by omega)
  rw [show ((2 : Int) ^ 1 - 1) = 1 by decide, show ((2 : Int) ^ 1) = 2 by decide] at h1
  rw [h1]
  rw [IntWalk.wrap64_in _ ⟨by omega, by omega⟩, bits_join .i64 63 (by decide) wraps_i64 1 (c * 2) ((q : Int) % 2) (by omega) (by omega) (by omega) (by omega) (by omega) (by omega)]
  omega
theorem symbol_next (b n : Nat) (c : Int) (h0 : 0 ≤ c) (h1 : c ≤ 4294967296) (hn : n + 1 < 32) (w : World) (hA : Arr w b 610 (F3 257)) :
    Calls Tryd.prog 116 #[.pointer (some ⟨b, 0, none⟩), .int .i64 c, .int .i64 ((n : Int) + 1)] w fun e w' => ∃ y, Hid (symF c (n + 1) = y) ∧ e = .returned (.int .i64 y) ∧ Aft w w' :=
  (symbol_any b (n + 1) c h0 h1 hn w hA).mono fun _ _ ⟨he, hw⟩ => ⟨_, Lib.hid rfl, he, hw⟩
theorem bitL_bd (l : List UInt8) (i : Nat) : 0 ≤ bitL l i ∧ bitL l i ≤ 1 := by
  unfold bitL
  omega
theorem drun_none {l : List UInt8} {k m : Nat} (h : drun l k = none) (hm : k ≤ m) : drun l m = none := by
  induction m with
  | zero =>
    have : k = 0 := by omega
    subst this
    exact h
  | succ m ih =>
    by_cases e : k = m + 1
    · subst e; exact h
    · simp only [drun, ih (by omega)]
      rfl
/-- What holds of the code that is begun. -/
def Inv (c : Int) (n : Nat) : Prop := 0 ≤ c ∧ c < 2 ^ n ∧ firstF n + count 257 n ≤ c ∧ n ≤ 29
theorem inv_zero : Inv 0 0 := by
  refine ⟨by omega, by decide, ?_, by omega⟩
  decide +kernel
theorem full30 : firstF 30 + count 257 30 = 2 ^ 30 := by decide +kernel
theorem pow_le30 {n : Nat} (h : n ≤ 30) : (2 : Int) ^ n ≤ 2 ^ 30 := by
  have h1 : (2 : Nat) ^ n ≤ 2 ^ 30 := Nat.pow_le_pow_right (by decide) h
  exact_mod_cast h1
theorem inv_step {c x : Int} {n : Nat} (h : Inv c n) (hx : 0 ≤ x ∧ x ≤ 1) : 0 ≤ 2 * c + x ∧ 2 * c + x < 2 ^ (n + 1) ∧ firstF (n + 1) ≤ 2 * c + x := by
  obtain ⟨h0, h1, h2, h3⟩ := h
  have : firstF (n + 1) = 2 * (firstF n + count 257 n) := rfl
  rw [Int.pow_succ]
  refine ⟨by omega, by omega, by omega⟩
theorem ord_nonneg : ∀ i, i < 257 → 0 ≤ ordF 257 i ∧ ordF 257 i ≤ 256 := by decide +kernel
theorem sym_bd {c : Int} {n : Nat} (hn : n < 32) (_ : firstF n ≤ c) : -1 ≤ symF c n ∧ symF c n ≤ 256 := by
  unfold symF
  split
  · omega
  · rename_i hlt
    have s0 := start_bd n (by omega)
    have s1 := start_bd (n + 1) (by omega)
    have se : startF (n + 1) = startF n + count 257 n := rfl
    have := ord_nonneg (startF n + (c - firstF n)).toNat (by omega)
    omega
theorem inv_none {c x : Int} {n : Nat} (h : Inv c n) (hx : 0 ≤ x ∧ x ≤ 1) (hs : symF (2 * c + x) (n + 1) < 0) : Inv (2 * c + x) (n + 1) := by
  obtain ⟨a0, a1, a2⟩ := inv_step h hx
  have hn : n + 1 ≤ 30 := by have := h.2.2.2; omega
  have hc : firstF (n + 1) + count 257 (n + 1) ≤ 2 * c + x := by
    unfold symF at hs
    split at hs
    · omega
    · rename_i hlt
      have s0 := start_bd (n + 1) (by omega)
      have s1 := start_bd (n + 1 + 1) (by omega)
      have se : startF (n + 1 + 1) = startF (n + 1) + count 257 (n + 1) := rfl
      have := ord_nonneg (startF (n + 1) + (2 * c + x - firstF (n + 1))).toNat (by omega)
      omega
  refine ⟨a0, a1, hc, ?_⟩
  by_cases e : n + 1 = 30
  · rw [e, full30] at hc
    rw [e] at a1
    omega
  · omega

set_option maxHeartbeats 2000000 in
set_option maxRecDepth 100000 in
theorem decode_any (v : Value) (l : List UInt8) (w : World) (hr : Rb w v l) (hlen : l.length ≤ 100000000000) :
    Calls Tryd.prog 107 #[v] w fun e w' => e = .returned (.tuple #[.string ⟨(decF l).1.toArray⟩, .int .i64 (decF l).2]) ∧ Aft w w' := by
  rcases hr with ⟨rfl, rfl⟩ | ⟨pb, off, cap, rfl, hcap, hcap2, hpb, hcell⟩
  · have hfin : decF [] = ([], 0) := by decide +kernel
    have HF := Lib.hid hfin
    clear hfin
    go_enter Tryd.func107, Tryd.ntmps107
    go_wp2_with (go_at_call 105; refine (made_any _).mono ?_; rintro e w1 ⟨rfl, hA, ha⟩)
    clear hA
    go_loopw [5, 6, 7, 8, 9, 14] (fun vo vc vn _ _ vk wr => vo = .slice none 0 0 ∧ vc = .int .i64 0 ∧ vn = .int .i64 0 ∧ vk = .int .i64 0 ∧ wr = w1) (fun _ _ _ _ _ _ _ => 0)
    case atStart => exact ⟨rfl, rfl, rfl, rfl, rfl⟩
    case round =>
      obtain ⟨rfl, rfl, rfl, rfl, rfl⟩ := hrel
      have hcv := own_string (Own.nil wr 0)
      go_wp2_with fail
      go_ret2
      rw [HF.out]
      exact ⟨rfl, ha⟩
  · unfold maxLen at hcap2
    go_enter Tryd.func107, Tryd.ntmps107
    go_wp2_with (go_at_call 105; refine (made_any _).mono ?_; rintro e w1 ⟨rfl, hA, ha⟩)
    have hB : Below w1.heap.size w1 w1 := Below.refl _ _
    have hzb : w.heap.size < w1.heap.size := hA.hb
    generalize hbb : w.heap.size = b at *
    have HBB := Lib.hid hbb
    clear hbb
    go_loopw [5, 6, 7, 8, 9, 14] (fun vo vc vn _ _ vk wr => ∃ (k n : Nat) (c : Int) (o : List UInt8), k ≤ 8 * l.length ∧ vk = .int .i64 (k : Int) ∧ vc = .int .i64 c ∧ vn = .int .i64 (n : Int) ∧ Inv c n ∧ o.length ≤ k ∧ Hid (drun l k = some (o, c, n)) ∧ Own wr w1.heap.size vo o ∧ Below w1.heap.size w1 wr) (fun _ _ _ _ _ vk _ => 8 * l.length - (intOf vk).toNat)
    case atStart => exact ⟨0, 0, 0, [], by omega, by go_num, rfl, by go_num, inv_zero, by simp, Lib.hid rfl, Own.nil _ _, hB⟩
    case round =>
      obtain ⟨k, n, c, o, hk, rfl, rfl, rfl, hinv, hol, HD, hown, hbel⟩ := hrel
      have hAr : Arr wr b 610 (F3 257) := hA.aft (Below.mono hbel (Nat.le_refl _))
      have ⟨c0, c1, c2, n1⟩ := hinv
      have c3 := pow_le30 (n := n) (by omega)
      by_cases hlt : k < 8 * l.length
      · have hk8 : k / 8 < l.length := by omega
        have hc8 : wr.cell? ⟨pb, off + k / 8, none⟩ = some (.int .u8 (l[k / 8].toNat : Int)) := by
          rw [Below.cell hbel (p := ⟨pb, off + k / 8, none⟩) (by show pb < _; omega), Below.cell ha.to (p := ⟨pb, off + k / 8, none⟩) (by rw [HBB.out]; exact hpb)]
          exact hcell _ hk8
        have m8 : k % 8 < 8 := by omega
        have c4 : c < 2147483648 := by omega
        clear c1 c2 c3
        go_wp2_with fail
        rw [bit_step hk8 c c0 c4]
        obtain ⟨x0, x1⟩ := bitL_bd l k
        obtain ⟨i0, i1, i2⟩ := inv_step hinv ⟨x0, x1⟩
        have i3 := pow_le30 (n := n + 1) (by omega)
        have hsb := sym_bd (n := n + 1) (by omega) i2
        have hin := inv_none (c := c) (x := bitL l k) (n := n) hinv ⟨x0, x1⟩
        have hst : drun l (k + 1) = dstep (o, c, n) (bitL l k) := by simp only [drun, HD.out, Option.bind_some]
        unfold dstep at hst
        simp only at hst
        have hC : 2 * c + bitL l k ≤ 4294967296 := by omega
        generalize 2 * c + bitL l k = C at *
        have HST := Lib.hid hst
        have HIN := Lib.hid hin
        have HSB := Lib.hid hsb
        clear hst hin hsb i1 i2 i3 x0 x1 hc8
        refine (symbol_next b n C i0 hC (by omega) _ hAr).mono ?_
        rintro e w2 ⟨y, HY, rfl, ha2⟩
        have hyb := HSB.out
        have hbel2 : Below w1.heap.size w1 w2 := hbel.trans (Below.mono ha2 hbel.size)
        have hown2 := hown.aft ha2
        rw [HY.out] at hyb
        have y0 : -1 ≤ y := hyb.1
        have y1 : y ≤ 256 := hyb.2
        clear hyb HSB
        by_cases hy : y = 256
        · have hfin : decF l = ([], 4) := by
            have := HST.out
            rw [HY.out, if_pos hy] at this
            unfold decF
            rw [drun_none this (by omega)]
          have HF := Lib.hid hfin
          have hyB : (y == 256) = true := by simpa using hy
          clear hfin hy
          go_wp2_with fail
          go_ret2
          rw [HF.out]
          exact ⟨rfl, ha.trans (Below.mono hbel2 (Nat.le_refl _))⟩
        · have hyB : (y == 256) = false := by simpa using hy
          by_cases hn : y < 0
          · have hstep : drun l (k + 1) = some (o, C, n + 1) := by
              rw [HST.out, HY.out, if_neg hy, if_neg (by omega)]
            have HS := Lib.hid hstep
            have hinv2 := HIN.out (by rw [HY.out]; exact hn)
            have HI2 := Lib.hid hinv2
            clear hstep hy hinv2
            go_wp2_with fail
            go_roundw
            case rel => exact ⟨k + 1, n + 1, C, o, by omega, by go_num, rfl, by go_num, HI2.out, by omega, HS, hown2, hbel2⟩
            case measure => simp [intOf]; omega
          · have hstep : drun l (k + 1) = some (o ++ [byteOf y], 0, 0) := by
              rw [HST.out, HY.out, if_neg hy, if_pos (by omega)]
            have HS := Lib.hid hstep
            clear hstep
            have y2 : 0 ≤ y := by omega
            have y3 : y < 256 := by omega
            clear hy
            go_wp2_with (at_builtin; refine wpList_push rfl _ _ rfl w1.heap.size _ o rfl (hown2.aft ((Aft.refl _).alloc _)) ⟨w2.heap.size, 0, none⟩ 1 y rfl (cell_new1 _ _ _) y2 y3 (by omega) (le_alloc hbel2.size _) ?_; intro v' w3 hown3 hgrow)
            have hbel3 : Below w1.heap.size w1 w3 := push_below (hbel2.alloc hbel2.size _) (hown2.aft ((Aft.refl _).alloc _)) hgrow (Nat.le_refl _) (le_alloc hbel2.size _)
            go_wp2_with fail
            go_roundw
            case rel => exact ⟨k + 1, 0, 0, o ++ [byteOf y], by omega, by go_num, rfl, by go_num, inv_zero, by simp; omega, HS, hown3, hbel3⟩
            case measure => simp [intOf]; omega
      · have hk8 : k = 8 * l.length := by omega
        have hcv := own_string hown
        have hfin : decF l = if 7 < n ∨ c ≠ 2 ^ n - 1 then ([], 4) else (o, 0) := by
          unfold decF
          rw [← hk8, HD.out]
        have HF := Lib.hid hfin
        clear hfin
        have hbw : Aft w wr := ha.trans (Below.mono hbel (Nat.le_refl _))
        by_cases hbad : 7 < n ∨ c ≠ 2 ^ n - 1
        · have hf2 := HF.out
          rw [if_pos hbad] at hf2
          have HF2 := Lib.hid hf2
          have HB2 := Lib.hid hbad
          clear hf2 hbad HF
          go_wp2_with fail
          all_goals
            first
              | (go_ret2
                 rw [HF2.out]
                 exact ⟨rfl, hbw⟩)
              | (exfalso
                 rcases HB2.out with h | h
                 · omega
                 · simp_all)
        · have hf2 := HF.out
          rw [if_neg hbad] at hf2
          have HF2 := Lib.hid hf2
          have hn7 : n ≤ 7 := by omega
          have hcb : (c != 2 ^ n - 1) = false := by rw [bne_eq_false_iff_eq]; omega
          clear hf2 hbad HF
          go_wp2_with fail
          go_ret2
          rw [HF2.out]
          exact ⟨rfl, hbw⟩

end Go.Proofs.YtmlnboibclfmcaaDoor
