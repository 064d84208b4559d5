/-
  The walk of the reference's bits.add.
-/
import Derived.Test.YtdilaommhflcoaaHuffRCode
import Derived.Test.YtdilaommhflcoaaHuffBits3
import Derived.Deep.DeepCutAuto
import Derived.RegionTactic
namespace Go.Proofs.Ytdilaommhflcoaa
open Go.RowKit

/-- The two cells of a row of bits: the bytes, how many bits. -/
structure Hd (w : World) (g : Nat) (v : Value) (m : Int) : Prop where
  c0 : w.cell? ⟨g, 0, none⟩ = some v
  c1 : w.cell? ⟨g, 1, none⟩ = some (.int .i64 m)
  f0 : w.frozen? ⟨g, 0, none⟩ = false
  f1 : w.frozen? ⟨g, 1, none⟩ = false
  lt : g < w.heap.size
theorem Hd.grown {w w' : World} {g : Nat} {v : Value} {m : Int} {row : Option Nat} (h : Hd w g v m) (hg : w.grownBy w' row) (hr : some g ≠ row) : Hd w' g v m := by
  have hb := hg.block g h.lt hr
  have e1 : ∀ o, w'.cell? ⟨g, o, none⟩ = w.cell? ⟨g, o, none⟩ := fun o => World.cell?_of_block (a := ⟨g, o, none⟩) hb
  have e2 : ∀ o, w'.frozen? ⟨g, o, none⟩ = w.frozen? ⟨g, o, none⟩ := fun o => World.frozen?_of_block (a := ⟨g, o, none⟩) hb
  exact ⟨(e1 0).trans h.c0, (e1 1).trans h.c1, (e2 0).trans h.f0, (e2 1).trans h.f1, Nat.lt_of_lt_of_le h.lt hg.size⟩
theorem Hd.set0 {w : World} {g : Nat} {v : Value} {m : Int} (h : Hd w g v m) (u : Value) : Hd (w.setCell ⟨g, 0, none⟩ u) g u m :=
  ⟨World.cell?_setCell_same _ _ _ h.c0, by rw [World.cell?_setCell_other _ _ _ _ (by simp)]; exact h.c1, by rw [World.frozen?_setCell]; exact h.f0, by rw [World.frozen?_setCell]; exact h.f1, by simpa [World.setCell] using h.lt⟩
theorem Hd.set1 {w : World} {g : Nat} {v : Value} {m : Int} (h : Hd w g v m) (u : Int) : Hd (w.setCell ⟨g, 1, none⟩ (.int .i64 u)) g v u :=
  ⟨by rw [World.cell?_setCell_other _ _ _ _ (by simp)]; exact h.c0, World.cell?_setCell_same _ _ _ h.c1, by rw [World.frozen?_setCell]; exact h.f0, by rw [World.frozen?_setCell]; exact h.f1, by simpa [World.setCell] using h.lt⟩
theorem Hd.far {w : World} {g : Nat} {v : Value} {m : Int} (h : Hd w g v m) {p : Addr} (hp : p.block ≠ g) (u : Value) : Hd (w.setCell p u) g v m :=
  ⟨by rw [World.cell?_setCell_other _ _ _ _ (by intro e; subst e; exact hp rfl)]; exact h.c0, by rw [World.cell?_setCell_other _ _ _ _ (by intro e; subst e; exact hp rfl)]; exact h.c1, by rw [World.frozen?_setCell]; exact h.f0, by rw [World.frozen?_setCell]; exact h.f1, by simpa [World.setCell] using h.lt⟩
theorem Hd.drew {w : World} {g : Nat} {v : Value} {m : Int} (h : Hd w g v m) : Hd w.drew g v m := ⟨h.c0, h.c1, h.f0, h.f1, h.lt⟩
theorem Hd.aft {w w' : World} {g : Nat} {v : Value} {m : Int} (h : Hd w g v m) (ha : Aft w w') : Hd w' g v m :=
  ⟨by rw [Below.cell ha.to (p := ⟨g, 0, none⟩) h.lt]; exact h.c0, by rw [Below.cell ha.to (p := ⟨g, 1, none⟩) h.lt]; exact h.c1, by rw [Below.frozen ha.to (p := ⟨g, 0, none⟩) h.lt]; exact h.f0, by rw [Below.frozen ha.to (p := ⟨g, 1, none⟩) h.lt]; exact h.f1, Nat.lt_of_lt_of_le h.lt ha.size⟩
theorem Hd.alloc {w : World} {g : Nat} {v : Value} {m : Int} (h : Hd w g v m) (o : Obj) : Hd (w.alloc o) g v m := h.aft ((Aft.refl _).alloc o)
theorem Own.far {w : World} {base : Nat} {v : Value} {l : List UInt8} (h : Own w base v l) {p : Addr} (hp : p.block < base) (u : Value) : Own (w.setCell p u) base v l := by
  obtain ⟨h1, h2⟩ := h
  refine ⟨h1, ?_⟩
  rcases h2 with h2 | ⟨k, cap, cur, a, b, c, d⟩
  · exact Or.inl h2
  · refine Or.inr ⟨k, cap, cur, a, b, ?_, d⟩
    rw [heap_setCell_other w p k u (by omega)]
    exact c
theorem Own.drew {w : World} {base : Nat} {v : Value} {l : List UInt8} (h : Own w base v l) : Own w.drew base v l := h
theorem Own.put {w : World} {base h cap n : Nat} {l : List UInt8} (ho : Own w base (.slice (some ⟨h, 0, none⟩) n cap) l) (j : Nat) (x : UInt8) : Own (w.setCell ⟨h, j, none⟩ (.int .u8 (x.toNat : Int))) base (.slice (some ⟨h, 0, none⟩) n cap) (l.set j x) := by
  have hn : n = l.length := by
    rcases ho.shape with ⟨a, _⟩ | ⟨g, c, a, _⟩
    · cases a
    · injection a
  subst hn
  have := (World.ownsRow.stored ho j (.int .u8 (x.toNat : Int))).1
  unfold Own
  rw [List.length_set]
  have e : bv (l.set j x) = (bv l).set j (.int .u8 (x.toNat : Int)) := by unfold bv; rw [List.map_set]
  rw [e]
  exact this

def zerosB (p : Nat) : List Int := List.replicate p 0
/-- Block g is a row of bits: bs. -/
def Bits (w : World) (g base : Nat) (bs : List Int) : Prop :=
  ∃ (v : Value) (l : List UInt8) (p : Nat), Hd w g v (bs.length : Int) ∧ g < base ∧ base ≤ w.heap.size ∧ Own w base v l ∧ BB l = bs ++ zerosB p ∧ p < 8
def setOk (x : Nat) : Bool := (List.range 8).all fun r => decide (x / 2 ^ (7 - r) % 2 ≠ 0) || (decide (bits .or .u8 (x : Int) (128 / 2 ^ r) = ((x + 2 ^ (7 - r) : Nat) : Int)) && decide (x + 2 ^ (7 - r) < 256) && (List.range 8).all fun i => decide ((x + 2 ^ (7 - r)) / 2 ^ (7 - i) % 2 = if i = r then 1 else x / 2 ^ (7 - i) % 2))
theorem set_ok : ∀ x, x < 256 → setOk x = true := by decide +kernel
theorem set_at {x r : Nat} (hx : x < 256) (hr : r < 8) (h0 : x / 2 ^ (7 - r) % 2 = 0) : bits .or .u8 (x : Int) (128 / 2 ^ r) = ((x + 2 ^ (7 - r) : Nat) : Int) ∧ x + 2 ^ (7 - r) < 256 ∧ ∀ i, i < 8 → (x + 2 ^ (7 - r)) / 2 ^ (7 - i) % 2 = if i = r then 1 else x / 2 ^ (7 - i) % 2 := by
  have h := set_ok x hx
  unfold setOk at h
  have h := List.all_eq_true.1 h r (List.mem_range.2 hr)
  simp only [Bool.or_eq_true, decide_eq_true_eq, Bool.and_eq_true] at h
  rcases h with h | ⟨⟨h1, h2⟩, h3⟩
  · exact absurd h0 h
  · refine ⟨h1, h2, fun i hi => ?_⟩
    have := List.all_eq_true.1 h3 i (List.mem_range.2 hi)
    simpa using this
/-- One bit more, a 1, where the bytes have room. -/
theorem BB_set {l : List UInt8} {bs : List Int} {p : Nat} (h : BB l = bs ++ zerosB (p + 1)) (hp : p < 8) : ∃ hq : bs.length / 8 < l.length,
    bits .or .u8 (l[bs.length / 8].toNat : Int) (128 / 2 ^ (bs.length % 8)) = ((byteOf (bits .or .u8 (l[bs.length / 8].toNat : Int) (128 / 2 ^ (bs.length % 8)))).toNat : Int) ∧
    BB (l.set (bs.length / 8) (byteOf (bits .or .u8 (l[bs.length / 8].toNat : Int) (128 / 2 ^ (bs.length % 8))))) = (bs ++ [1]) ++ zerosB p := by
  have hlen := congrArg List.length h
  rw [BB_len, List.length_append] at hlen
  simp only [zerosB, List.length_replicate] at hlen
  have hq : bs.length / 8 < l.length := by omega
  refine ⟨hq, ?_⟩
  have hx := (l[bs.length / 8]).toNat_lt
  have hbit : bitL l bs.length = 0 := by
    have h1 := BB_get l bs.length (by omega)
    rw [h, List.getElem?_append_right (Nat.le_refl _), Nat.sub_self] at h1
    simp only [zerosB, List.replicate_succ, List.getElem?_cons_zero, Option.some.injEq] at h1
    exact h1.symm
  have hget : l.getD (bs.length / 8) 0 = l[bs.length / 8] := by simp [List.getD, List.getElem?_eq_getElem hq]
  have hb0 : l[bs.length / 8].toNat / 2 ^ (7 - bs.length % 8) % 2 = 0 := by
    unfold bitL at hbit
    rw [hget] at hbit
    omega
  obtain ⟨e1, e2, e3⟩ := set_at (r := bs.length % 8) hx (by omega) hb0
  rw [e1]
  have eb : (byteOf ((l[bs.length / 8].toNat + 2 ^ (7 - bs.length % 8) : Nat) : Int)).toNat = l[bs.length / 8].toNat + 2 ^ (7 - bs.length % 8) := by
    generalize l[bs.length / 8].toNat + 2 ^ (7 - bs.length % 8) = y at *
    have := byteOf_toNat (n := (y : Int)) (by omega) (by omega)
    omega
  refine ⟨by rw [eb], ?_⟩
  apply List.ext_getElem?
  intro i
  by_cases hi : i < 8 * l.length
  · rw [BB_get _ i (by rw [List.length_set]; exact hi)]
    have hold := BB_get l i hi
    have hbl : bitL (l.set (bs.length / 8) (byteOf ((l[bs.length / 8].toNat + 2 ^ (7 - bs.length % 8) : Nat) : Int))) i = if i = bs.length then 1 else bitL l i := by
      unfold bitL
      by_cases hc : i / 8 = bs.length / 8
      · rw [hc, hget]
        simp only [List.getD_eq_getElem?_getD, List.getElem?_set_self hq, Option.getD_some, eb]
        rw [e3 (i % 8) (by omega)]
        by_cases hir : i % 8 = bs.length % 8
        · rw [if_pos hir, if_pos (by omega)]
          rfl
        · rw [if_neg hir, if_neg (by omega)]
      · rw [if_neg (by intro e; rw [e] at hc; exact hc rfl)]
        simp only [List.getD_eq_getElem?_getD, List.getElem?_set_ne (Ne.symm hc)]
    rw [hbl]
    rw [h] at hold
    by_cases hlt : i < bs.length
    · rw [if_neg (by omega), List.append_assoc, List.getElem?_append_left hlt]
      rw [List.getElem?_append_left hlt] at hold
      exact hold.symm
    · by_cases he : i = bs.length
      · rw [if_pos he, he, List.append_assoc, List.getElem?_append_right (Nat.le_refl _), Nat.sub_self]
        rfl
      · rw [if_neg he, List.getElem?_append_right (by simp; omega)]
        rw [List.getElem?_append_right (by omega)] at hold
        simp only [zerosB, List.getElem?_replicate] at hold ⊢
        rw [if_pos (by omega)] at hold
        rw [if_pos (by simp; omega)]
        exact hold.symm
  · rw [List.getElem?_eq_none (by rw [BB_len, List.length_set]; omega), List.getElem?_eq_none (by simp [zerosB]; omega)]

theorem add_grow {wr w6 : World} {g base : Nat} {v v6 : Value} {m : Int} {l : List UInt8} {o : Obj} (hH : Hd wr g v m) (hgb : g < base) (hbw : base ≤ wr.heap.size) (ho : Own wr base v l) (o6 : Own w6 base v6 (l ++ [byteOf 0])) (g6 : (wr.alloc o).grownBy w6 v.ownBlock) :
    ∃ h cap, v6 = .slice (some ⟨h, 0, none⟩) (l.length + 1) cap ∧ Hd w6 g v m ∧ base ≤ h ∧ h ≠ g ∧ base ≤ w6.heap.size ∧ l.length + 1 ≤ cap ∧ cap ≤ maxLen ∧ Below g wr w6 := by
  have hz := g6.size
  rw [World.size_alloc] at hz
  rcases o6.shape with ⟨_, h⟩ | ⟨h, cap, rfl, h1, h2, h3, h4⟩
  · simp at h
  · rw [List.length_append] at h3
    refine ⟨h, cap, by simp, (hH.alloc o).grown g6 ?_, h1, by omega, by omega, h3, h4, ?_⟩
    · intro e
      have := (ho.lt g e.symm).1
      omega
    · exact Below.grown ((Below.refl _ _).alloc (Nat.le_of_lt (by omega)) o) g6 (by rw [World.size_alloc]; omega) (fun k hk => by have := (ho.lt k hk).1; omega)
set_option maxHeartbeats 2000000 in
theorem add_any (g base : Nat) (bs : List Int) (c : Int) (n : Nat) (w : World) (h : Bits w g base bs) (c0 : 0 ≤ c) (c1 : c ≤ 4294967296) (hn : n ≤ 30) (hbs : bs.length ≤ 100000000000) :
    Calls Try.prog 26 #[.pointer (some ⟨g, 0, none⟩), .int .i64 c, .int .i64 (n : Int)] w fun e w' => e = .returned (.tuple #[]) ∧ Bits w' g base (bs ++ low c n) ∧ Below g w w' := by
  go_enter Try.func26, Try.ntmps26
  go_wp2_with fail
  go_loopw [6] (fun vk wr => ∃ (j : Nat), j ≤ n ∧ vk = .int .i64 ((j : Int) - 1) ∧ Hid (Bits wr g base (bs ++ low (c / 2 ^ j) (n - j))) ∧ Below g w wr) (fun vk _ => (intOf vk + 1).toNat)
  case atStart => exact ⟨n, Nat.le_refl _, rfl, Lib.hid (by rw [Nat.sub_self]; simpa [low] using h), Below.refl _ _⟩
  case round =>
    obtain ⟨j, hj, rfl, HBI, hbel⟩ := hrel
    by_cases hj0 : j = 0
    · subst hj0
      go_wp2_with fail
      go_end0
      have hb := HBI.out
      rw [Nat.sub_zero, show c / 2 ^ 0 = c by simp] at hb
      exact ⟨rfl, hb, hbel⟩
    · obtain ⟨j, rfl⟩ : ∃ j', j = j' + 1 := ⟨j - 1, by omega⟩
      rw [show (((j + 1 : Nat) : Int) - 1) = (j : Int) by omega]
      obtain ⟨v, l, p, hH, hgb, hbw, ho, hBB, hp⟩ := HBI.out
      obtain ⟨B, hB⟩ : ∃ B, B = bs ++ low (c / 2 ^ (j + 1)) (n - (j + 1)) := ⟨_, rfl⟩
      rw [← hB] at hH hBB
      have hnext : bs ++ low (c / 2 ^ j) (n - j) = B ++ [c / 2 ^ j % 2] := by
        rw [hB, show n - j = (n - (j + 1)) + 1 by omega]
        simp only [low]
        rw [show (2 : Int) ^ (j + 1) = 2 ^ j * 2 from Int.pow_succ _ _, ← Int.ediv_ediv_of_nonneg (Int.pow_nonneg (by decide)), List.append_assoc]
      have hBl : B.length ≤ 100000000030 := by rw [hB, List.length_append, low_len]; omega
      have hlen := congrArg List.length hBB
      rw [BB_len, List.length_append] at hlen
      simp only [zerosB, List.length_replicate] at hlen
      have HB := Lib.hid hB
      have HN := Lib.hid hnext
      have HBB := Lib.hid hBB
      clear hB hnext hBB HBI
      have e0 : (j : Int) + 1 - 1 = (j : Int) := by omega
      have hcj0 : 0 ≤ c / 2 ^ j := Int.ediv_nonneg c0 (Int.pow_nonneg (by decide))
      have hcj1 : c / 2 ^ j ≤ 4294967296 := by
        have : c / 2 ^ j ≤ c := Int.ediv_le_self _ c0
        omega
      have hc0 := hH.c0
      have hc1 := hH.c1
      have hf0 := hH.f0
      have hf1 := hH.f1
      have hx0 := bits_mask .i64 63 (by decide) wraps_i64 1 (by decide) (c / 2 ^ j) (by omega) (by omega)
      rw [show ((2 : Int) ^ 1 - 1) = 1 by decide, show ((2 : Int) ^ 1) = 2 by decide] at hx0
      have HX0 := Lib.hid hx0
      clear hx0
      go_upto_if 18 with fail
      go_cut [] (fun wx => ∃ (W : World) (h cap p7 : Nat) (l7 : List UInt8), W = wx ∧ Hd wx g (.slice (some ⟨h, 0, none⟩) l7.length cap) (B.length : Int) ∧ base ≤ h ∧ base ≤ wx.heap.size ∧ l7.length ≤ cap ∧ cap ≤ maxLen ∧ Own wx base (.slice (some ⟨h, 0, none⟩) l7.length cap) l7 ∧ Hid (BB l7 = B ++ zerosB (p7 + 1)) ∧ p7 < 8 ∧ Below g wr wx)
      case first =>
        by_cases hm : B.length % 8 = 0
        · have hmB : (((B.length : Int) % 8) == 0) = true := by simp; omega
          have hp0 : p = 0 := by omega
          go_wp2_with (at_builtin; refine wpList_push rfl (.tmp 23) (.tmp 24) rfl base v l rfl (ho.aft ((Aft.refl _).alloc _)) ⟨wr.heap.size, 0, none⟩ 1 0 rfl (cell_new1 _ _ _) (by decide) (by decide) (by omega) (le_alloc hbw _) ?_; intro v6 w6 o6 g6; obtain ⟨h, cap, rfl, hH6, hbh, hhg, hbw6, hlc, hcm, hbel6⟩ := add_grow hH hgb hbw ho o6 g6; have k0 := hH6.c0; have k1 := hH6.c1; have k2 := hH6.f0; have k3 := hH6.f1)
          go_meet
          have hl1 : (l ++ [byteOf 0]).length = l.length + 1 := by simp
          have h0b : BB [byteOf 0] = zerosB 8 := by decide +kernel
          refine ⟨_, h, cap, 7, l ++ [byteOf 0], rfl, ?_, hbh, by simpa [World.setCell] using hbw6, by omega, hcm, ?_, Lib.hid ?_, by omega, hbel6.setCell (Nat.le_refl _) _⟩
          · rw [hl1]; exact hH6.set0 _
          · rw [hl1]; exact o6.far (p := ⟨g, 0, none⟩) hgb _
          · rw [BB_append, HBB.out, hp0, h0b]
            simp [zerosB]
        · have hmB : (((B.length : Int) % 8) == 0) = false := by simp; omega
          go_wp2_with fail
          go_meet
          rcases ho.shape with ⟨_, e⟩ | ⟨h, cap, rfl, h1, h2, h3, h4⟩
          · subst e; simp at hlen; omega
          · exact ⟨_, h, cap, p - 1, l, rfl, hH, h1, hbw, h3, h4, ho, Lib.hid (by rw [show p - 1 + 1 = p by omega]; exact HBB.out), by omega, Below.refl _ _⟩
      case rest =>
        obtain ⟨W7, h, cap, p7, l7, hW7, hH7, hbh, hbw7, hlc, hcm, ho7, HB7, hp7, hbel7⟩ := hcut
        subst hW7
        have hhg : h ≠ g := by omega
        have k0 := hH7.c0
        have k1 := hH7.c1
        have k2 := hH7.f0
        have k3 := hH7.f1
        obtain ⟨hq, hs1, hs2⟩ := BB_set HB7.out hp7
        have q1 : (B.length : Int) / 8 < (l7.length : Int) := by omega
        have c7 : W7.cell? ⟨h, B.length / 8, none⟩ = some (.int .u8 (l7[B.length / 8].toNat : Int)) := by
          have hx := World.ownsRow.cellAt ho7 (B.length / 8) (by omega)
          rw [hx]
          unfold bv
          rw [List.getElem?_map, List.getElem?_eq_getElem hq]
          rfl
        have f7 : W7.frozen? ⟨h, B.length / 8, none⟩ = false := World.ownsRow.frozenAt ho7 _
        have y1 := (l7[B.length / 8]).toNat_lt
        generalize (l7[B.length / 8]).toNat = y at *
        have HS1 := Lib.hid hs1
        have HS2 := Lib.hid hs2
        clear hc0 hc1 hf0 hf1 hs1 hs2
        by_cases hbit : c / 2 ^ j % 2 = 1
        · have hbB : (bits .and .i64 (c / 2 ^ j) 1 == 1) = true := by rw [HX0.out, hbit]; rfl
          go_wp2_with fail
          go_region
          go_wp2_with fail
          go_roundw
          case rel =>
            refine ⟨j, by omega, rfl, Lib.hid ?_, ?_⟩
            · rw [HN.out, hbit]
              have hput : Own (W7.setCell ⟨h, B.length / 8, none⟩ (.int .u8 (bits .or .u8 (y : Int) (128 / 2 ^ (B.length % 8))))) base (.slice (some ⟨h, 0, none⟩) l7.length cap) (l7.set (B.length / 8) (byteOf (bits .or .u8 (y : Int) (128 / 2 ^ (B.length % 8))))) := by
                have := ho7.put (B.length / 8) (byteOf (bits .or .u8 (y : Int) (128 / 2 ^ (B.length % 8))))
                rw [← HS1.out] at this
                exact this
              refine ⟨.slice (some ⟨h, 0, none⟩) l7.length cap, l7.set (B.length / 8) (byteOf (bits .or .u8 (y : Int) (128 / 2 ^ (B.length % 8)))), p7, ?_, hgb, ?_, ?_, HS2.out, hp7⟩
              · rw [List.length_append]
                exact ((hH7.far (p := ⟨h, B.length / 8, none⟩) hhg _).set1 _).drew
              · simpa [World.setCell] using hbw7
              · exact (hput.far (p := ⟨g, 1, none⟩) hgb _).drew
            · exact ((((hbel.trans hbel7).setCell (p := ⟨h, B.length / 8, none⟩) (by show g ≤ h; omega) _).setCell (p := ⟨g, 1, none⟩) (Nat.le_refl _) _).drew)
          case measure => simp [intOf] <;> omega
        · have hbB : (bits .and .i64 (c / 2 ^ j) 1 == 1) = false := by rw [HX0.out]; simpa using hbit
          go_wp2_with fail
          go_roundw
          case rel =>
            refine ⟨j, by omega, rfl, Lib.hid ?_, ?_⟩
            · rw [HN.out, show c / 2 ^ j % 2 = 0 by omega]
              refine ⟨_, l7, p7, by rw [List.length_append]; exact hH7.set1 _, hgb, by simpa [World.setCell] using hbw7, ho7.far (p := ⟨g, 1, none⟩) hgb _, ?_, hp7⟩
              rw [HB7.out]
              simp [zerosB, List.replicate_succ]
            · exact (hbel.trans hbel7).setCell (Nat.le_refl _) _
          case measure => simp [intOf] <;> omega

end Go.Proofs.Ytdilaommhflcoaa
