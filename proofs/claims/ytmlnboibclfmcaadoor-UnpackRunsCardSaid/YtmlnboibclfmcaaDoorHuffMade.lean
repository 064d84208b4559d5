/-
  The walk of huff.made: the book of codes, in new memory.
-/
import Derived.Test.YtmlnboibclfmcaaDoorHuffLen
import Derived.Deep.RegionLaw
import Derived.RegionTactic
import Derived.ChangeAlike
import Derived.IntWalk
namespace Go.Proofs.YtmlnboibclfmcaaDoor
open Go.RowKit

/-- The first n cells of block g hold the numbers f 0, f 1 ..; none is frozen. -/
structure Arr (w : World) (g n : Nat) (f : Nat → Int) : Prop where
  cell : ∀ i, i < n → w.cell? ⟨g, i, none⟩ = some (.int .i64 (f i))
  free : ∀ i, i < n → w.frozen? ⟨g, i, none⟩ = false
  hb : g < w.heap.size
def upd (f : Nat → Int) (j : Nat) (v : Int) : Nat → Int := fun i => if i = j then v else f i
theorem Arr.set {w : World} {g n : Nat} {f : Nat → Int} (h : Arr w g n f) {j : Nat} (hj : j < n) (v : Int) : Arr (w.setCell ⟨g, j, none⟩ (.int .i64 v)) g n (upd f j v) where
  cell i hi := by
    unfold upd
    by_cases e : i = j
    · subst e; rw [if_pos rfl]; exact World.cell?_setCell_same _ _ _ (h.cell i hi)
    · rw [if_neg e, World.cell?_setCell_other _ _ _ _ (fun h => e (congrArg Addr.off h).symm)]; exact h.cell i hi
  free i hi := by rw [World.frozen?_setCell]; exact h.free i hi
  hb := by simpa [World.setCell] using h.hb
theorem Arr.other {w : World} {g n : Nat} {f : Nat → Int} (h : Arr w g n f) {p : Addr} (hp : p.block ≠ g) (v : Value) : Arr (w.setCell p v) g n f where
  cell i hi := by rw [World.cell?_setCell_other _ _ _ _ (by intro e; subst e; exact hp rfl)]; exact h.cell i hi
  free i hi := by rw [World.frozen?_setCell]; exact h.free i hi
  hb := by simpa [World.setCell] using h.hb
theorem Arr.aft {w w' : World} {g n : Nat} {f : Nat → Int} (h : Arr w g n f) (ha : Aft w w') : Arr w' g n f where
  cell i hi := by rw [Below.cell ha.to (p := ⟨g, i, none⟩) h.hb]; exact h.cell i hi
  free i hi := by rw [Below.frozen ha.to (p := ⟨g, i, none⟩) h.hb]; exact h.free i hi
  hb := Nat.lt_of_lt_of_le h.hb ha.size
theorem Arr.drewN {w : World} {g n : Nat} {f : Nat → Int} (h : Arr w g n f) (k : Nat) : Arr (w.drewN k) g n f := ⟨h.cell, h.free, h.hb⟩
theorem Arr.congr {w : World} {g n : Nat} {f f' : Nat → Int} (h : Arr w g n f) (e : ∀ i, i < n → f i = f' i) : Arr w g n f' :=
  ⟨fun i hi => by rw [← e i hi]; exact h.cell i hi, h.free, h.hb⟩
theorem Arr.new (w : World) (n : Nat) (t : TypeId) : Arr (w.alloc (.cells (zeros n) t)) w.heap.size n (fun _ => 0) where
  cell i hi := by
    simp only [World.cell?, heap_new]
    simp [zeros, hi]
  free i hi := by
    simp only [World.frozen?, heap_new]
    simp
  hb := by simp

theorem len_of (s l : Int) (hl : Hp.lenF s = l) (h0 : -9223372036854775808 ≤ s) (h1 : s ≤ 9223372036854775807) (w : World) :
    Calls Tryd.prog 93 #[.int .i64 s] w fun e w' => e = .returned (.int .i64 l) ∧ Aft w w' := by
  rw [← hl]
  exact len_any s h0 h1 w

def count (k n : Nat) : Int := (((Hp.lensL.take k).filter (· == n)).length : Nat)
def F1 (k : Nat) (i : Nat) : Int := if 32 ≤ i ∧ i < 64 then count k (i - 32) else 0
theorem count_succ (k n : Nat) (hk : k < 257) : count (k + 1) n = count k n + if Hp.lensL.getD k 0 = n then 1 else 0 := by
  have hl : k < Hp.lensL.length := by rw [Hp.lensL_len]; exact hk
  unfold count
  rw [List.take_succ_eq_append_getElem hl, List.filter_append, List.length_append]
  have : Hp.lensL.getD k 0 = Hp.lensL[k] := by simp [List.getD, List.getElem?_eq_getElem hl]
  rw [this]
  by_cases h : Hp.lensL[k] = n <;> simp [h]
theorem lenF_nat (k : Nat) (hk : k < 257) : Hp.lenF (k : Int) = (Hp.lensL.getD k 0 : Nat) := by
  unfold Hp.lenF
  rw [if_neg (by omega), Int.toNat_natCast]
theorem F1_succ (k : Nat) (hk : k < 257) (l : Int) (hl : Hp.lenF (k : Int) = l) (_ : 0 ≤ l) (h1 : l < 32) (i : Nat) : upd (F1 k) (32 + l.toNat) (F1 k (32 + l.toNat) + 1) i = F1 (k + 1) i := by
  rw [lenF_nat k hk] at hl
  unfold upd F1
  by_cases e : i = 32 + l.toNat
  · subst e
    rw [if_pos rfl, if_pos (by omega), if_pos (by omega), count_succ k _ hk, if_pos (by omega)]
  · rw [if_neg e]
    by_cases hi : 32 ≤ i ∧ i < 64
    · rw [if_pos hi, if_pos hi, count_succ k _ hk, if_neg (by omega)]
      omega
    · rw [if_neg hi, if_neg hi]
theorem count_bd (k n : Nat) : 0 ≤ count k n ∧ count k n ≤ 257 := by
  unfold count
  have h1 := List.length_filter_le (· == n) (Hp.lensL.take k)
  have h2 := List.length_take_le' k Hp.lensL
  rw [Hp.lensL_len] at h2
  omega
theorem F1_bd (k i : Nat) : 0 ≤ F1 k i ∧ F1 k i ≤ 257 := by
  unfold F1
  split
  · exact count_bd _ _
  · omega
theorem Arr.alloc {w : World} {g n : Nat} {f : Nat → Int} (h : Arr w g n f) (o : Obj) : Arr (w.alloc o) g n f := h.aft ((Aft.refl _).alloc o)
def firstF : Nat → Int
  | 0 => 0
  | n + 1 => 2 * (firstF n + count 257 n)
def startF : Nat → Int
  | 0 => 0
  | n + 1 => startF n + count 257 n
theorem first_bd : ∀ n, n < 33 → 0 ≤ firstF n ∧ firstF n ≤ 4294967296 := by decide +kernel
theorem start_bd : ∀ n, n < 33 → 0 ≤ startF n ∧ startF n ≤ 257 := by decide +kernel
def F2 (m i : Nat) : Int := if i < 32 then (if i < m then firstF i else 0) else if i < 64 then count 257 (i - 32) else if i < 96 then (if i - 64 < m then startF (i - 64) else 0) else 0
def C2 (m i : Nat) : Int := if i < m then firstF i else 0
def A2 (m i : Nat) : Int := if i < m then startF i else 0
theorem C2_succ (m i : Nat) : upd (C2 m) m (firstF m) i = C2 (m + 1) i := by
  unfold upd C2
  by_cases e : i = m
  · subst e; rw [if_pos rfl, if_pos (by omega)]
  · rw [if_neg e]
    by_cases h : i < m
    · rw [if_pos h, if_pos (by omega)]
    · rw [if_neg h, if_neg (by omega)]
theorem A2_succ (m i : Nat) : upd (A2 m) m (startF m) i = A2 (m + 1) i := by
  unfold upd A2
  by_cases e : i = m
  · subst e; rw [if_pos rfl, if_pos (by omega)]
  · rw [if_neg e]
    by_cases h : i < m
    · rw [if_pos h, if_pos (by omega)]
    · rw [if_neg h, if_neg (by omega)]
theorem F2_succ (m : Nat) (hm : m < 32) (i : Nat) : upd (upd (F2 m) m (firstF m)) (64 + m) (startF m) i = F2 (m + 1) i := by
  unfold upd F2
  by_cases e : i = 64 + m
  · subst e
    rw [if_pos rfl, if_neg (by omega), if_neg (by omega), if_pos (by omega), if_pos (by omega), show 64 + m - 64 = m by omega]
  · rw [if_neg e]
    by_cases e2 : i = m
    · subst e2; rw [if_pos rfl, if_pos (by omega), if_pos (by omega)]
    · rw [if_neg e2]
      by_cases h1 : i < 32
      · rw [if_pos h1, if_pos h1]
        by_cases h : i < m
        · rw [if_pos h, if_pos (by omega)]
        · rw [if_neg h, if_neg (by omega)]
      · rw [if_neg h1, if_neg h1]
        by_cases h2 : i < 64
        · rw [if_pos h2, if_pos h2]
        · rw [if_neg h2, if_neg h2]
          by_cases h3 : i < 96
          · rw [if_pos h3, if_pos h3]
            by_cases h : i - 64 < m
            · rw [if_pos h, if_pos (by omega)]
            · rw [if_neg h, if_neg (by omega)]
          · rw [if_neg h3, if_neg h3]
theorem F1_F2 (i : Nat) : F1 257 i = F2 1 i := by
  unfold F1 F2
  by_cases h1 : i < 32
  · rw [if_neg (by omega), if_pos h1]
    by_cases h : i < 1
    · rw [if_pos h, show i = 0 by omega]; rfl
    · rw [if_neg h]
  · rw [if_neg h1]
    by_cases h2 : i < 64
    · rw [if_pos (by omega), if_pos h2]
    · rw [if_neg (by omega), if_neg h2]
      by_cases h3 : i < 96
      · rw [if_pos h3]
        by_cases h : i - 64 < 1
        · rw [if_pos h, show i - 64 = 0 by omega]; rfl
        · rw [if_neg h]
      · rw [if_neg h3]
/-- The state of the third loop: codes and places of the symbols below k. -/
def C3 (k i : Nat) : Int := if i < 32 then firstF i + count k i else 0
def A3 (k i : Nat) : Int := if i < 32 then startF i + count k i else 0
def posF (k : Nat) : Int := startF (Hp.lensL.getD k 0) + count k (Hp.lensL.getD k 0)
def codeF (k : Nat) : Int := firstF (Hp.lensL.getD k 0) + count k (Hp.lensL.getD k 0)
def ordF : Nat → Nat → Int
  | 0 => fun _ => 0
  | k + 1 => upd (ordF k) (posF k).toNat k
def F3 (k i : Nat) : Int := if i < 96 then F2 32 i else if i < 353 then ordF k (i - 96) else if i - 353 < k then codeF (i - 353) else 0
theorem pos_bd : ∀ k, k < 257 → 0 ≤ posF k ∧ posF k < 257 := by decide +kernel
theorem code_bd : ∀ k, k < 257 → 0 ≤ codeF k ∧ codeF k ≤ 4294967296 := by decide +kernel
theorem count_zero (n : Nat) : count 0 n = 0 := rfl
theorem F2_F3 (i : Nat) (_ : i < 610) : F2 (31 + 1) i = F3 0 i := by
  unfold F3
  by_cases h : i < 96
  · rw [if_pos h]
  · rw [if_neg h]
    have : F2 32 i = 0 := by unfold F2; rw [if_neg (by omega), if_neg (by omega), if_neg h]
    rw [this]
    by_cases h2 : i < 353
    · rw [if_pos h2]; rfl
    · rw [if_neg h2, if_neg (by omega)]
theorem C2_C3 (i : Nat) (hi : i < 32) : C2 (31 + 1) i = C3 0 i := by
  unfold C2 C3
  rw [if_pos (by omega), if_pos hi, count_zero]
  omega
theorem A2_A3 (i : Nat) (hi : i < 32) : A2 (31 + 1) i = A3 0 i := by
  unfold A2 A3
  rw [if_pos (by omega), if_pos hi, count_zero]
  omega
theorem C3_succ (k : Nat) (hk : k < 257) (n : Nat) (hn : n = Hp.lensL.getD k 0) (hn2 : n < 32) (i : Nat) : upd (C3 k) n (C3 k n + 1) i = C3 (k + 1) i := by
  unfold upd C3
  by_cases e : i = n
  · subst e; rw [if_pos rfl, if_pos hn2, if_pos hn2, count_succ k _ hk, if_pos hn.symm]; omega
  · rw [if_neg e]
    by_cases h : i < 32
    · rw [if_pos h, if_pos h, count_succ k _ hk, if_neg (by omega)]; omega
    · rw [if_neg h, if_neg h]
theorem A3_succ (k : Nat) (hk : k < 257) (n : Nat) (hn : n = Hp.lensL.getD k 0) (hn2 : n < 32) (i : Nat) : upd (A3 k) n (A3 k n + 1) i = A3 (k + 1) i := by
  unfold upd A3
  by_cases e : i = n
  · subst e; rw [if_pos rfl, if_pos hn2, if_pos hn2, count_succ k _ hk, if_pos hn.symm]; omega
  · rw [if_neg e]
    by_cases h : i < 32
    · rw [if_pos h, if_pos h, count_succ k _ hk, if_neg (by omega)]; omega
    · rw [if_neg h, if_neg h]
theorem F3_succ (k : Nat) (hk : k < 257) (i : Nat) : upd (upd (F3 k) (353 + k) (codeF k)) (96 + (posF k).toNat) (k : Int) i = F3 (k + 1) i := by
  have hp := pos_bd k hk
  unfold upd F3
  by_cases e : i = 96 + (posF k).toNat
  · subst e
    rw [if_pos rfl, if_neg (by omega), if_pos (by omega), show 96 + (posF k).toNat - 96 = (posF k).toNat by omega]
    show _ = upd (ordF k) (posF k).toNat k (posF k).toNat
    unfold upd
    rw [if_pos rfl]
  · rw [if_neg e]
    by_cases e2 : i = 353 + k
    · subst e2
      rw [if_pos rfl, if_neg (by omega), if_neg (by omega), if_pos (by omega), show 353 + k - 353 = k by omega]
    · rw [if_neg e2]
      by_cases h1 : i < 96
      · rw [if_pos h1, if_pos h1]
      · rw [if_neg h1, if_neg h1]
        by_cases h2 : i < 353
        · rw [if_pos h2, if_pos h2]
          show _ = upd (ordF k) (posF k).toNat k (i - 96)
          unfold upd
          rw [if_neg (by omega)]
        · rw [if_neg h2, if_neg h2]
          by_cases h3 : i - 353 < k
          · rw [if_pos h3, if_pos (by omega)]
          · rw [if_neg h3, if_neg (by omega)]
theorem zeroV32 (w : World) : (zeroValue 148).run Tryd.prog w = .ok (.agg (zeros 32)) w := by kernel_rfl

set_option maxRecDepth 100000 in
set_option maxHeartbeats 2000000 in
theorem made_any (w : World) :
    Calls Tryd.prog 105 #[] w fun e w' => e = .returned (.pointer (some ⟨w.heap.size, 0, none⟩)) ∧ Arr w' w.heap.size 610 (F3 257) ∧ Aft w w' := by
  have hzv := zeroV32
  go_enter Tryd.func105, Tryd.ntmps105
  go_wp2_with (first
    | (refine wpList_buildTo rfl 151 _ rfl (some 8) rfl (zeros 610) (by kernel_rfl) ?_))
  have hA0 := Arr.new w 610 151
  have hB0 : Below w.heap.size w (w.alloc (.cells (zeros 610) 151)) := (Below.refl _ _).alloc (Nat.le_refl _) _
  generalize w.alloc (.cells (zeros 610) 151) = W0 at *
  go_loopw [2, 10] (fun _ c wr => ∃ k : Nat, k ≤ 257 ∧ c = .int .i64 (k : Int) ∧ Arr wr w.heap.size 610 (F1 k) ∧ Below w.heap.size w wr) (fun _ c _ => 257 - (intOf c).toNat)
  case atStart => exact ⟨0, by omega, by go_num, hA0.congr (fun i hi => by simp [F1, count]), hB0⟩
  case round =>
    obtain ⟨k, hk, rfl, hA, hB⟩ := hrel
    by_cases hlt : k < 257
    · have hlb := Hp.lenF_bd k (by omega) (by omega)
      generalize hl : Hp.lenF k = l at *
      have HL := Lib.hid hl
      clear hl
      have hl0 : 0 ≤ l := by omega
      have hl1 : l < 32 := by omega
      have hAd : Arr wr.drew w.heap.size 610 (F1 k) := hA.drewN 1
      go_wp2_with fail
      go_region_law (first
        | (go_simp; go_at_call 93; refine (len_of k l HL.out (by omega) (by omega) _).mono ?_; rintro e w1 ⟨rfl, ha⟩; have hA1 := hAd.aft ha; have c1 := hA1.cell (32 + l.toNat) (by omega); have f1 := hA1.free (32 + l.toNat) (by omega)))
      go_wp2
      go_roundw
      case rel =>
        refine ⟨k + 1, by omega, by go_num, (hA1.set (by omega) _).congr (fun i _ => ?_), bset (hB.trans (Below.trans ((Below.refl _ _).drew) (Below.mono ha hB.size))) _ _ _ (Nat.le_refl _)⟩
        have := F1_succ k (by omega) l HL.out hl0 hl1 i
        rw [← this]
        congr 1
        have hb := F1_bd k (32 + l.toNat)
        exact IntWalk.wrap64_in _ ⟨by omega, by omega⟩
      case measure => simp [intOf]; omega
    · have hk257 : k = 257 := by omega
      subst hk257
      clear hA0 hB0 hlt hk
      have hA := hA.congr (fun i _ => F1_F2 i)
      go_wp2_with fail
      obtain ⟨c, hc⟩ : ∃ c, c = wr.heap.size := ⟨_, rfl⟩
      have hAb : Arr ((wr.alloc (.cells (zeros 32) 148)).alloc (.cells (zeros 32) 148)) w.heap.size 610 (F2 1) := (hA.alloc _).alloc _
      have hAc : Arr ((wr.alloc (.cells (zeros 32) 148)).alloc (.cells (zeros 32) 148)) wr.heap.size 32 (C2 1) := ((Arr.new wr 32 _).alloc _).congr (fun i _ => by unfold C2; by_cases h : i < 1 <;> simp [h]; rw [show i = 0 by omega]; rfl)
      have hAd : Arr ((wr.alloc (.cells (zeros 32) 148)).alloc (.cells (zeros 32) 148)) (wr.heap.size + 1) 32 (A2 1) := by
        have := Arr.new (wr.alloc (.cells (zeros 32) 148)) 32 148
        rw [World.size_alloc] at this
        exact this.congr (fun i _ => by unfold A2; by_cases h : i < 1 <;> simp [h]; rw [show i = 0 by omega]; rfl)
      have hBw : Below w.heap.size w ((wr.alloc (.cells (zeros 32) 148)).alloc (.cells (zeros 32) 148)) := (hB.alloc hB.size _).alloc (by simp; have := hB.size; omega) _
      have hbc : w.heap.size < wr.heap.size := hA.hb
      generalize (wr.alloc (.cells (zeros 32) 148)).alloc (.cells (zeros 32) 148) = W2 at *
      rw [← hc] at hAc hAd hbc
      simp only [← hc]
      clear hc hA hB
      generalize hb : w.heap.size = b at *
      have HB := Lib.hid hb
      clear hb
      go_loopw [5] (fun v wr => ∃ p : Nat, p < 32 ∧ v = .int .i64 ((p : Int) + 1) ∧ Arr wr b 610 (F2 (p + 1)) ∧ Arr wr c 32 (C2 (p + 1)) ∧ Arr wr (c + 1) 32 (A2 (p + 1)) ∧ Below b w wr) (fun v _ => 32 - (intOf v).toNat)
      case atStart => exact ⟨0, by omega, by go_num, hAb, hAc, hAd, hBw⟩
      case round =>
        clear hAb hAc hAd hBw
        obtain ⟨p, hp, rfl, hAb, hAc, hAd, hBw⟩ := hrel
        by_cases hlt : (p : Int) + 1 < 32
        · have f0 := first_bd p (by omega)
          have f1 := first_bd (p + 1) (by omega)
          have s0 := start_bd p (by omega)
          have s1 := start_bd (p + 1) (by omega)
          have n0 := count_bd 257 p
          have ef : firstF (p + 1) = 2 * (firstF p + count 257 p) := rfl
          have es : startF (p + 1) = startF p + count 257 p := rfl
          have b1 : wr.cell? ⟨b, p, none⟩ = some (.int .i64 (firstF p)) := by rw [hAb.cell p (by omega)]; unfold F2; rw [if_pos (by omega), if_pos (by omega)]
          have b2 : wr.cell? ⟨b, 32 + p, none⟩ = some (.int .i64 (count 257 p)) := by rw [hAb.cell (32 + p) (by omega)]; unfold F2; rw [if_neg (by omega), if_pos (by omega), show 32 + p - 32 = p by omega]
          have c1 := hAc.cell (p + 1) (by omega)
          have g1 := hAc.free (p + 1) (by omega)
          have w1 : IntKind.i64.wrap (firstF p + count 257 p) = firstF p + count 257 p := IntWalk.i64_in _ (by omega)
          have w2 : IntKind.i64.wrap (2 * (firstF p + count 257 p)) = 2 * (firstF p + count 257 p) := IntWalk.i64_in _ (by omega)
          have i1 : (p : Int) < 32 := by omega
          have i2 : 0 ≤ (p : Int) := by omega
          have HEF := Lib.hid ef
          have HES := Lib.hid es
          clear ef es
          go_wp2_with fail
          go_region
          go_wp2_with fail
          have hAc3 : Arr (wr.setCell ⟨c, p + 1, none⟩ (.int .i64 (2 * (firstF p + count 257 p)))).drew c 32 (C2 (p + 2)) := ((hAc.set (by omega) _).drewN 1).congr (fun i _ => by rw [← HEF.out]; exact C2_succ (p + 1) i)
          have hAb3 : Arr (wr.setCell ⟨c, p + 1, none⟩ (.int .i64 (2 * (firstF p + count 257 p)))).drew b 610 (F2 (p + 1)) := (hAb.other (by simp; omega) _).drewN 1
          have hAd3 : Arr (wr.setCell ⟨c, p + 1, none⟩ (.int .i64 (2 * (firstF p + count 257 p)))).drew (c + 1) 32 (A2 (p + 1)) := (hAd.other (by simp) _).drewN 1
          have hB3 : Below b w (wr.setCell ⟨c, p + 1, none⟩ (.int .i64 (2 * (firstF p + count 257 p)))).drew := (bset hBw _ _ _ (by omega)).drew
          clear b1 b2 c1 g1 w1 w2 hAb hAc hAd hBw
          generalize (wr.setCell ⟨c, p + 1, none⟩ (.int .i64 (2 * (firstF p + count 257 p)))).drew = W3 at *
          have b2 : W3.cell? ⟨b, 32 + p, none⟩ = some (.int .i64 (count 257 p)) := by rw [hAb3.cell (32 + p) (by omega)]; unfold F2; rw [if_neg (by omega), if_pos (by omega), show 32 + p - 32 = p by omega]
          have d1 : W3.cell? ⟨c + 1, p, none⟩ = some (.int .i64 (startF p)) := by rw [hAd3.cell p (by omega)]; unfold A2; rw [if_pos (by omega)]
          have d2 := hAd3.cell (p + 1) (by omega)
          have g2 := hAd3.free (p + 1) (by omega)
          have w3 : IntKind.i64.wrap (startF p + count 257 p) = startF p + count 257 p := IntWalk.i64_in _ (by omega)
          go_region
          go_wp2_with fail
          have hAd4 : Arr (W3.setCell ⟨c + 1, p + 1, none⟩ (.int .i64 (startF p + count 257 p))).drew (c + 1) 32 (A2 (p + 2)) := ((hAd3.set (by omega) _).drewN 1).congr (fun i _ => by rw [← HES.out]; exact A2_succ (p + 1) i)
          have hAb4 : Arr (W3.setCell ⟨c + 1, p + 1, none⟩ (.int .i64 (startF p + count 257 p))).drew b 610 (F2 (p + 1)) := (hAb3.other (by simp; omega) _).drewN 1
          have hAc4 : Arr (W3.setCell ⟨c + 1, p + 1, none⟩ (.int .i64 (startF p + count 257 p))).drew c 32 (C2 (p + 2)) := (hAc3.other (by simp) _).drewN 1
          have hB4 : Below b w (W3.setCell ⟨c + 1, p + 1, none⟩ (.int .i64 (startF p + count 257 p))).drew := (bset hB3 _ _ _ (by omega)).drew
          clear b2 d1 d2 g2 w3 hAb3 hAc3 hAd3 hB3
          generalize (W3.setCell ⟨c + 1, p + 1, none⟩ (.int .i64 (startF p + count 257 p))).drew = W4 at *
          have c2 : W4.cell? ⟨c, p + 1, none⟩ = some (.int .i64 (firstF (p + 1))) := by rw [hAc4.cell (p + 1) (by omega)]; unfold C2; rw [if_pos (by omega)]
          have d3 : W4.cell? ⟨c + 1, p + 1, none⟩ = some (.int .i64 (startF (p + 1))) := by rw [hAd4.cell (p + 1) (by omega)]; unfold A2; rw [if_pos (by omega)]
          have b3 := hAb4.cell (p + 1) (by omega)
          have b4 := hAb4.cell (64 + (p + 1)) (by omega)
          have g3 := hAb4.free (p + 1) (by omega)
          have g4 := hAb4.free (64 + (p + 1)) (by omega)
          go_region
          go_wp2_with fail
          go_roundw
          case rel => exact ⟨p + 1, by omega, by go_num, (((hAb4.set (by omega) _).set (by omega) _).drewN 1).congr (fun i _ => F2_succ (p + 1) (by omega) i), ((hAc4.other (by simp; omega) _).other (by simp; omega) _).drewN 1, ((hAd4.other (by simp; omega) _).other (by simp; omega) _).drewN 1, (bset (bset hB4 _ _ _ (Nat.le_refl _)) _ _ _ (Nat.le_refl _)).drew⟩
          case measure => simp [intOf]; omega
        · have hp31 : p = 31 := by omega
          have hAb := hAb.congr (f' := F3 0) (fun i hi => by rw [hp31]; exact F2_F3 i hi)
          have hAc := hAc.congr (f' := C3 0) (fun i hi => by rw [hp31]; exact C2_C3 i hi)
          have hAd := hAd.congr (f' := A3 0) (fun i hi => by rw [hp31]; exact A2_A3 i hi)
          clear hp31
          go_wp2_with fail
          go_loopw [6, 7, 77] (fun _ _ v wr => ∃ k : Nat, k ≤ 257 ∧ v = .int .i64 (k : Int) ∧ Arr wr b 610 (F3 k) ∧ Arr wr c 32 (C3 k) ∧ Arr wr (c + 1) 32 (A3 k) ∧ Below b w wr) (fun _ _ v _ => 257 - (intOf v).toNat)
          case atStart => exact ⟨0, by omega, by go_num, hAb, hAc, hAd, hBw⟩
          case round =>
            clear hAb hAc hAd hBw
            obtain ⟨k, hk, rfl, hAb, hAc, hAd, hBw⟩ := hrel
            by_cases hlt : k < 257
            · have hlb := Hp.lenF_bd k (by omega) (by omega)
              have hln := lenF_nat k hlt
              obtain ⟨n, hn⟩ : ∃ n, n = Hp.lensL.getD k 0 := ⟨_, rfl⟩
              rw [← hn] at hln
              rw [hln] at hlb
              have HL := Lib.hid hln
              have HN := Lib.hid hn
              clear hln hn
              have l0 : 0 ≤ (n : Int) := by omega
              have l1 : (n : Int) < 32 := by omega
              have hpos := pos_bd k hlt
              rw [posF, ← HN.out] at hpos
              go_wp2_with (go_at_call 93; refine (len_of k n HL.out (by omega) (by omega) _).mono ?_; rintro e w1 ⟨rfl, ha⟩)
              have hcb := code_bd k hlt
              rw [codeF, ← HN.out] at hcb
              have hAb1 := hAb.aft ha
              have hAc1 := hAc.aft ha
              have hAd1 := hAd.aft ha
              have hB1 : Below b w w1 := hBw.trans (Below.mono ha (Nat.le_of_lt hAb.hb))
              clear hAb hAc hAd hBw ha
              have c1 : w1.cell? ⟨c, n, none⟩ = some (.int .i64 (firstF n + count k n)) := by rw [hAc1.cell n (by omega)]; unfold C3; rw [if_pos (by omega)]
              have d1 : w1.cell? ⟨c + 1, n, none⟩ = some (.int .i64 (startF n + count k n)) := by rw [hAd1.cell n (by omega)]; unfold A3; rw [if_pos (by omega)]
              have eC : codeF k = firstF n + count k n := by unfold codeF; rw [← HN.out]
              have eP : posF k = startF n + count k n := by unfold posF; rw [← HN.out]
              have eC3 : C3 k n = firstF n + count k n := by unfold C3; rw [if_pos (by omega)]
              have eA3 : A3 k n = startF n + count k n := by unfold A3; rw [if_pos (by omega)]
              generalize firstF n + count k n = C at *
              generalize startF n + count k n = P at *
              have HC := Lib.hid eC
              have HP := Lib.hid eP
              have HC3 := Lib.hid eC3
              have HA3 := Lib.hid eA3
              clear eC eP eC3 eA3
              have p0 : 0 ≤ P := hpos.1
              have p1 : P < 257 := hpos.2
              have q0 : 0 ≤ C := hcb.1
              have q1 : C ≤ 4294967296 := hcb.2
              clear hpos hcb
              have k1 : (k : Int) < 257 := by omega
              have b1 := hAb1.cell (353 + k) (by omega)
              have b2 := hAb1.cell (96 + P.toNat) (by omega)
              have g1 := hAb1.free (353 + k) (by omega)
              have g2 := hAb1.free (96 + P.toNat) (by omega)
              have g3 := hAc1.free n (by omega)
              have g4 := hAd1.free n (by omega)
              go_region
              go_wp2_with fail
              go_roundw
              case rel =>
                refine ⟨k + 1, by omega, by go_num, ?_, ?_, ?_, ?_⟩
                · refine ((((((hAb1.set (by omega) _).set (by omega) _).other (by simp; omega) _).other (by simp; omega) _).drewN 1)).congr (fun i _ => ?_)
                  rw [← HC.out, ← HP.out]
                  exact F3_succ k hlt i
                · refine ((((((hAc1.other (by simp; omega) _).other (by simp; omega) _).set (by omega) _).other (by simp) _).drewN 1)).congr (fun i _ => ?_)
                  rw [← HC3.out]
                  exact C3_succ k hlt n HN.out (by omega) i
                · refine ((((((hAd1.other (by simp; omega) _).other (by simp; omega) _).other (by simp) _).set (by omega) _).drewN 1)).congr (fun i _ => ?_)
                  rw [← HA3.out]
                  exact A3_succ k hlt n HN.out (by omega) i
                · exact (bset (bset (bset (bset hB1 _ _ _ (Nat.le_refl _)) _ _ _ (Nat.le_refl _)) _ _ _ (by omega)) _ _ _ (by omega)).drew
              case measure => simp [intOf]; omega
            · have hk257 : k = 257 := by omega
              go_wp2_with fail
              go_ret
              rw [HB.out]
              refine ⟨rfl, ?_, ?_⟩
              · exact hAb.congr (fun i _ => by rw [hk257])
              · unfold Aft
                rw [HB.out]
                exact hBw

end Go.Proofs.YtmlnboibclfmcaaDoor
