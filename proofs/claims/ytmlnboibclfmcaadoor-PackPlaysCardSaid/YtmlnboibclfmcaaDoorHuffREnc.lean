/-
  The walk of the reference's Code. The walk of the reference's bits.add. The walk of the reference's Encode.
-/
import Derived.Test.YtmlnboibclfmcaaDoorHuffSz
import Derived.Deep.DeepCutAuto
import Derived.RegionTactic
import Derived.Test.YtmlnboibclfmcaaDoorHuffWJoins
namespace Go.Proofs.YtmlnboibclfmcaaDoor
open Go.RowKit

theorem len_k (k : Nat) (hk : k < 257) (w : World) :
    Calls Tryd.prog 93 #[.int .i64 (k : Int)] w fun e w' => ∃ n : Nat, Hid (Hp.lensL.getD k 0 = n) ∧ n ≤ 30 ∧ e = .returned (.int .i64 (n : Int)) ∧ Aft w w' := by
  refine (len_of (k : Int) _ (lenF_nat k hk) (by omega) (by omega) w).mono ?_
  rintro e w' ⟨rfl, h⟩
  exact ⟨_, Lib.hid rfl, (Hp.lensL_bd k hk).2, rfl, h⟩

set_option maxHeartbeats 2000000 in
theorem rcode_in (x : Nat) (hx : x < 257) (w : World) :
    Calls Tryd.prog 94 #[.int .i64 (x : Int)] w fun e w' => e = .returned (.tuple #[.int .i64 (codeF x), .int .i64 (Hp.lensL.getD x 0 : Nat)]) ∧ Aft w w' := by
  have hlb := Hp.lensL_bd x hx
  have hcf : codeF x = firstF (Hp.lensL.getD x 0) + count x (Hp.lensL.getD x 0) := rfl
  have hln := lenF_nat x hx
  have HB : ∀ k s, k < 33 → 0 ≤ firstF k ∧ firstF k ≤ 4294967296 ∧ 0 ≤ count s k ∧ count s k ≤ 257 := fun k s h => ⟨(first_bd k h).1, (first_bd k h).2, (count_bd s k).1, (count_bd s k).2⟩
  have HBB := Lib.hid HB
  generalize hN : Hp.lensL.getD x 0 = N at *
  have HN := Lib.hid hN
  have HC := Lib.hid hcf
  have c1 := len_of (x : Int) _ hln (by omega) (by omega)
  have hN0 : ((N : Int) == 0) = false := by rw [beq_eq_false_iff_ne]; omega
  have C1 := Lib.hid c1
  clear hcf hN hln c1 HB
  go_enter Tryd.func94, Tryd.ntmps94
  go_wp2_with fail
  refine (C1.out _).mono ?_
  rintro e w1 ⟨rfl, b1⟩
  go_wp2_with fail
  go_loopw [5, 6, 7, 8] (fun vc vl vk _ wr => ∃ (k : Nat) (c : Int), k < N ∧ vk = .int .i64 (k + 1 : Int) ∧ vl = .int .i64 (k : Int) ∧ vc = .int .i64 c ∧ Hid (c = firstF k + count 257 k) ∧ 0 ≤ c ∧ c ≤ 4294967296 + 257 ∧ Aft w wr) (fun _ _ vk _ _ => N + 1 - (intOf vk).toNat)
  case atStart => exact ⟨0, 0, by omega, rfl, rfl, rfl, Lib.hid (by decide +kernel), by omega, by omega, b1⟩
  case round =>
    obtain ⟨k, c, hk, rfl, rfl, rfl, HCC, hc0, hc1, hw⟩ := hrel
    have hd : (k : Int) + 1 - (k : Int) = 1 := by omega
    have hdk : decide ((k : Int) + 1 ≤ (N : Int)) = true := by simp; omega
    go_wp2_with fail
    have hC : c * 2 = firstF (k + 1) + count 0 (k + 1) := by
      have := HCC.out
      have hf : firstF (k + 1) = 2 * (firstF k + count 257 k) := rfl
      rw [count_zero]
      omega
    have hbc := HBB.out (k + 1) 0 (by omega)
    have hb0 : 0 ≤ c * 2 := by omega
    have hb1 : c * 2 ≤ 4294967296 + 257 := by omega
    generalize c * 2 = C0 at *
    have HC0 := Lib.hid hC
    clear hC hbc HCC hc0 hc1
    go_loopw [5, 8] (fun vc vs wi => ∃ (s : Nat) (C : Int), s ≤ 257 ∧ (k + 1 = N → s ≤ x) ∧ vs = .int .i64 (s : Int) ∧ vc = .int .i64 C ∧ Hid (C = firstF (k + 1) + count s (k + 1)) ∧ 0 ≤ C ∧ C ≤ 4294967296 + 257 ∧ Aft w wi) (fun _ vs _ => 257 - (intOf vs).toNat)
    case atStart => exact ⟨0, C0, by omega, fun _ => by omega, by go_num, rfl, HC0, hb0, hb1, hw⟩
    case round =>
      obtain ⟨s, C, hs, hsx, rfl, rfl, HCS, hC0, hC1, hwi⟩ := hrel
      by_cases hlt : s < 257
      · go_wp2_with fail
        refine (len_k s hlt _).mono ?_
        rintro e w2 ⟨n, HL, hn, rfl, b2⟩
        by_cases hnk : n = k + 1
        · have hB : ((n : Int) != (k : Int) + 1) = false := by rw [bne_eq_false_iff_eq]; omega
          by_cases hsx2 : s = x
          · have hB2 : ((s : Int) == (x : Int)) = true := by rw [hsx2]; exact beq_self_eq_true _
            have hNn : n = N := by have h1 := HL.out; have h2 := HN.out; rw [hsx2] at h1; omega
            have hres : C = codeF x := by
              rw [HC.out, HCS.out, ← hNn, hnk, hsx2]
            have HR := Lib.hid hres
            clear hsx2 hNn hnk hsx hres
            go_wp2_with fail
            go_ret2
            rw [HR.out]
            exact ⟨rfl, hwi.trans b2⟩
          · have hB2 : ((s : Int) == (x : Int)) = false := by rw [beq_eq_false_iff_ne]; omega
            have hbc := HBB.out (k + 1) (s + 1) (by omega)
            have hres : C + 1 = firstF (k + 1) + count (s + 1) (k + 1) := by
              rw [HCS.out, count_succ s _ hlt, if_pos (by rw [HL.out, hnk])]
              omega
            have hC2 : C + 1 ≤ 4294967296 + 257 := by omega
            have hsx3 : k + 1 = N → s + 1 ≤ x := fun h => by have := hsx h; omega
            have HR := Lib.hid hres
            have HX := Lib.hid hsx3
            clear hsx hsx2 hsx3 hres hbc hnk
            go_wp2_with fail
            go_roundw
            case rel => exact ⟨s + 1, C + 1, by omega, HX.out, by go_num, rfl, HR, by omega, hC2, hwi.trans b2⟩
            case measure => simp [intOf]; omega
        · have hB : ((n : Int) != (k : Int) + 1) = true := by rw [bne_iff_ne]; omega
          have hres : C = firstF (k + 1) + count (s + 1) (k + 1) := by
            rw [HCS.out, count_succ s _ hlt, if_neg (by rw [HL.out]; exact hnk)]
            omega
          have hsx3 : k + 1 = N → s + 1 ≤ x := fun h => by
            have h0 := hsx h
            by_cases e : s = x
            · have h1 := HL.out; have h2 := HN.out; rw [e] at h1; omega
            · omega
          have HR := Lib.hid hres
          have HX := Lib.hid hsx3
          clear hsx hsx3 hres hnk
          go_wp2_with fail
          go_roundw
          case rel => exact ⟨s + 1, C, by omega, HX.out, by go_num, rfl, HR, hC0, hC1, hwi.trans b2⟩
          case measure => simp [intOf]; omega
      · have hs7 : s = 257 := by omega
        have hkN : k + 1 < N := by
          by_cases e : k + 1 = N
          · have := hsx e; omega
          · omega
        have hres : C = firstF (k + 1) + count 257 (k + 1) := by rw [HCS.out, hs7]
        have HR := Lib.hid hres
        clear hsx hres hs7
        go_wp2_with fail
        go_roundw
        case rel => exact ⟨k + 1, C, hkN, by go_num, by go_num, rfl, HR, hC0, hC1, hwi⟩
        case measure => simp [intOf]; omega

theorem rcode_any (s : Int) (h0 : -9223372036854775808 ≤ s) (h1 : s ≤ 9223372036854775807) (w : World) :
    Calls Tryd.prog 94 #[.int .i64 s] w fun e w' => e = .returned (.tuple #[.int .i64 (symCode s), .int .i64 (Hp.lenF s)]) ∧ Aft w w' := by
  by_cases hb : s < 0 ∨ 257 ≤ s
  · have hf : symCode s = 0 ∧ Hp.lenF s = 0 := by unfold symCode Hp.lenF; rw [if_pos hb, if_pos hb]; exact ⟨rfl, rfl⟩
    have HF := Lib.hid hf
    have C1 := Lib.hid (len_of s _ HF.out.2 h0 h1)
    clear hf hb
    go_enter Tryd.func94, Tryd.ntmps94
    go_wp2_with fail
    refine (C1.out _).mono ?_
    rintro e w1 ⟨rfl, b1⟩
    go_wp2_with fail
    go_ret2
    rw [HF.out.1, HF.out.2]
    exact ⟨rfl, b1⟩
  · obtain ⟨x, rfl⟩ := Int.eq_ofNat_of_zero_le (show 0 ≤ s by omega)
    have h2 : symCode (x : Int) = codeF x := by unfold symCode; rw [if_neg hb]; simp
    rw [h2, lenF_nat x (by omega)]
    exact rcode_in x (by omega) w

end Go.Proofs.YtmlnboibclfmcaaDoor
namespace Go.Proofs.YtmlnboibclfmcaaDoor
open Go.RowKit

/-- The two cells of a row of bits: the bytes, how many bits. -/
structure Hd (w : World) (g : Nat) (v : Value) (m : Int) : Prop where
  c0 : w.cell? ⟨g, 0, none⟩ = some v
  c1 : w.cell? ⟨g, 1, none⟩ = some (.int .i64 m)
  f0 : w.frozen? ⟨g, 0, none⟩ = false
  f1 : w.frozen? ⟨g, 1, none⟩ = false
  lt : g < w.heap.size
theorem Hd.grown {w w' : World} {g : Nat} {v : Value} {m : Int} {row : Option Nat} (h : Hd w g v m) (hg : w.grownBy w' row) (hr : some g ≠ row) : Hd w' g v m := by
  have hb := hg.block g h.lt hr
  have e1 : ∀ o, w'.cell? ⟨g, o, none⟩ = w.cell? ⟨g, o, none⟩ := fun o => World.cell?_of_block (a := ⟨g, o, none⟩) hb
  have e2 : ∀ o, w'.frozen? ⟨g, o, none⟩ = w.frozen? ⟨g, o, none⟩ := fun o => World.frozen?_of_block (a := ⟨g, o, none⟩) hb
  exact ⟨(e1 0).trans h.c0, (e1 1).trans h.c1, (e2 0).trans h.f0, (e2 1).trans h.f1, Nat.lt_of_lt_of_le h.lt hg.size⟩
theorem Hd.set0 {w : World} {g : Nat} {v : Value} {m : Int} (h : Hd w g v m) (u : Value) : Hd (w.setCell ⟨g, 0, none⟩ u) g u m :=
  ⟨World.cell?_setCell_same _ _ _ h.c0, by rw [World.cell?_setCell_other _ _ _ _ (by simp)]; exact h.c1, by rw [World.frozen?_setCell]; exact h.f0, by rw [World.frozen?_setCell]; exact h.f1, by simpa [World.setCell] using h.lt⟩
theorem Hd.set1 {w : World} {g : Nat} {v : Value} {m : Int} (h : Hd w g v m) (u : Int) : Hd (w.setCell ⟨g, 1, none⟩ (.int .i64 u)) g v u :=
  ⟨by rw [World.cell?_setCell_other _ _ _ _ (by simp)]; exact h.c0, World.cell?_setCell_same _ _ _ h.c1, by rw [World.frozen?_setCell]; exact h.f0, by rw [World.frozen?_setCell]; exact h.f1, by simpa [World.setCell] using h.lt⟩
theorem Hd.far {w : World} {g : Nat} {v : Value} {m : Int} (h : Hd w g v m) {p : Addr} (hp : p.block ≠ g) (u : Value) : Hd (w.setCell p u) g v m :=
  ⟨by rw [World.cell?_setCell_other _ _ _ _ (by intro e; subst e; exact hp rfl)]; exact h.c0, by rw [World.cell?_setCell_other _ _ _ _ (by intro e; subst e; exact hp rfl)]; exact h.c1, by rw [World.frozen?_setCell]; exact h.f0, by rw [World.frozen?_setCell]; exact h.f1, by simpa [World.setCell] using h.lt⟩
theorem Hd.drew {w : World} {g : Nat} {v : Value} {m : Int} (h : Hd w g v m) : Hd w.drew g v m := ⟨h.c0, h.c1, h.f0, h.f1, h.lt⟩
theorem Hd.aft {w w' : World} {g : Nat} {v : Value} {m : Int} (h : Hd w g v m) (ha : Aft w w') : Hd w' g v m :=
  ⟨by rw [Below.cell ha.to (p := ⟨g, 0, none⟩) h.lt]; exact h.c0, by rw [Below.cell ha.to (p := ⟨g, 1, none⟩) h.lt]; exact h.c1, by rw [Below.frozen ha.to (p := ⟨g, 0, none⟩) h.lt]; exact h.f0, by rw [Below.frozen ha.to (p := ⟨g, 1, none⟩) h.lt]; exact h.f1, Nat.lt_of_lt_of_le h.lt ha.size⟩
theorem Hd.alloc {w : World} {g : Nat} {v : Value} {m : Int} (h : Hd w g v m) (o : Obj) : Hd (w.alloc o) g v m := h.aft ((Aft.refl _).alloc o)
theorem Own.far {w : World} {base : Nat} {v : Value} {l : List UInt8} (h : Own w base v l) {p : Addr} (hp : p.block < base) (u : Value) : Own (w.setCell p u) base v l := by
  obtain ⟨h1, h2⟩ := h
  refine ⟨h1, ?_⟩
  rcases h2 with h2 | ⟨k, cap, cur, a, b, c, d⟩
  · exact Or.inl h2
  · refine Or.inr ⟨k, cap, cur, a, b, ?_, d⟩
    rw [heap_setCell_other w p k u (by omega)]
    exact c
theorem Own.drew {w : World} {base : Nat} {v : Value} {l : List UInt8} (h : Own w base v l) : Own w.drew base v l := h
theorem Own.put {w : World} {base h cap n : Nat} {l : List UInt8} (ho : Own w base (.slice (some ⟨h, 0, none⟩) n cap) l) (j : Nat) (x : UInt8) : Own (w.setCell ⟨h, j, none⟩ (.int .u8 (x.toNat : Int))) base (.slice (some ⟨h, 0, none⟩) n cap) (l.set j x) := by
  have hn : n = l.length := by
    rcases ho.shape with ⟨a, _⟩ | ⟨g, c, a, _⟩
    · cases a
    · injection a
  subst hn
  have := (World.ownsRow.stored ho j (.int .u8 (x.toNat : Int))).1
  unfold Own
  rw [List.length_set]
  have e : bv (l.set j x) = (bv l).set j (.int .u8 (x.toNat : Int)) := by unfold bv; rw [List.map_set]
  rw [e]
  exact this

def zerosB (p : Nat) : List Int := List.replicate p 0
/-- Block g is a row of bits: bs. -/
def Bits (w : World) (g base : Nat) (bs : List Int) : Prop :=
  ∃ (v : Value) (l : List UInt8) (p : Nat), Hd w g v (bs.length : Int) ∧ g < base ∧ base ≤ w.heap.size ∧ Own w base v l ∧ BB l = bs ++ zerosB p ∧ p < 8
def setOk (x : Nat) : Bool := (List.range 8).all fun r => decide (x / 2 ^ (7 - r) % 2 ≠ 0) || (decide (bits .or .u8 (x : Int) (128 / 2 ^ r) = ((x + 2 ^ (7 - r) : Nat) : Int)) && decide (x + 2 ^ (7 - r) < 256) && (List.range 8).all fun i => decide ((x + 2 ^ (7 - r)) / 2 ^ (7 - i) % 2 = if i = r then 1 else x / 2 ^ (7 - i) % 2))
theorem set_ok : ∀ x, x < 256 → setOk x = true := by decide +kernel
theorem set_at {x r : Nat} (hx : x < 256) (hr : r < 8) (h0 : x / 2 ^ (7 - r) % 2 = 0) : bits .or .u8 (x : Int) (128 / 2 ^ r) = ((x + 2 ^ (7 - r) : Nat) : Int) ∧ x + 2 ^ (7 - r) < 256 ∧ ∀ i, i < 8 → (x + 2 ^ (7 - r)) / 2 ^ (7 - i) % 2 = if i = r then 1 else x / 2 ^ (7 - i) % 2 := by
  have h := set_ok x hx
  unfold setOk at h
  have h := List.all_eq_true.1 h r (List.mem_range.2 hr)
  simp only [Bool.or_eq_true, decide_eq_true_eq, Bool.and_eq_true] at h
  rcases h with h | ⟨⟨h1, h2⟩, h3⟩
  · exact absurd h0 h
  · refine ⟨h1, h2, fun i hi => ?_⟩
    have := List.all_eq_true.1 h3 i (List.mem_range.2 hi)
    simpa using this
/-- One bit more, a 1, where the bytes have room. -/
theorem BB_set {l : List UInt8} {bs : List Int} {p : Nat} (h : BB l = bs ++ zerosB (p + 1)) (hp : p < 8) : ∃ hq : bs.length / 8 < l.length,
    bits .or .u8 (l[bs.length / 8].toNat : Int) (128 / 2 ^ (bs.length % 8)) = ((byteOf (bits .or .u8 (l[bs.length / 8].toNat : Int) (128 / 2 ^ (bs.length % 8)))).toNat : Int) ∧
    BB (l.set (bs.length / 8) (byteOf (bits .or .u8 (l[bs.length / 8].toNat : Int) (128 / 2 ^ (bs.length % 8))))) = (bs ++ [1]) ++ zerosB p := by
  have hlen := congrArg List.length h
  rw [BB_len, List.length_append] at hlen
  simp only [zerosB, List.length_replicate] at hlen
  have hq : bs.length / 8 < l.length := by omega
  refine ⟨hq, ?_⟩
  have hx := (l[bs.length / 8]).toNat_lt
  have hbit : bitL l bs.length = 0 := by
    have h1 := BB_get l bs.length (by omega)
    rw [h, List.getElem?_append_right (Nat.le_refl _), Nat.sub_self] at h1
    simp only [zerosB, List.replicate_succ, List.getElem?_cons_zero, Option.some.injEq] at h1
    exact h1.symm
  have hget : l.getD (bs.length / 8) 0 = l[bs.length / 8] := by simp [List.getD, List.getElem?_eq_getElem hq]
  have hb0 : l[bs.length / 8].toNat / 2 ^ (7 - bs.length % 8) % 2 = 0 := by
    unfold bitL at hbit
    rw [hget] at hbit
    omega
  obtain ⟨e1, e2, e3⟩ := set_at (r := bs.length % 8) hx (by omega) hb0
  rw [e1]
  have eb : (byteOf ((l[bs.length / 8].toNat + 2 ^ (7 - bs.length % 8) : Nat) : Int)).toNat = l[bs.length / 8].toNat + 2 ^ (7 - bs.length % 8) := by
    generalize l[bs.length / 8].toNat + 2 ^ (7 - bs.length % 8) = y at *
    have := byteOf_toNat (n := (y : Int)) (by omega) (by omega)
    omega
  refine ⟨by rw [eb], ?_⟩
  apply List.ext_getElem?
  intro i
  by_cases hi : i < 8 * l.length
  · rw [BB_get _ i (by rw [List.length_set]; exact hi)]
    have hold := BB_get l i hi
    have hbl : bitL (l.set (bs.length / 8) (byteOf ((l[bs.length / 8].toNat + 2 ^ (7 - bs.length % 8) : Nat) : Int))) i = if i = bs.length then 1 else bitL l i := by
      unfold bitL
      by_cases hc : i / 8 = bs.length / 8
      · rw [hc, hget]
        simp only [List.getD_eq_getElem?_getD, List.getElem?_set_self hq, Option.getD_some, eb]
        rw [e3 (i % 8) (by omega)]
        by_cases hir : i % 8 = bs.length % 8
        · rw [if_pos hir, if_pos (by omega)]
          rfl
        · rw [if_neg hir, if_neg (by omega)]
      · rw [if_neg (by intro e; rw [e] at hc; exact hc rfl)]
        simp only [List.getD_eq_getElem?_getD, List.getElem?_set_ne (Ne.symm hc)]
    rw [hbl]
    rw [h] at hold
    by_cases hlt : i < bs.length
    · rw [if_neg (by omega), List.append_assoc, List.getElem?_append_left hlt]
      rw [List.getElem?_append_left hlt] at hold
      exact hold.symm
    · by_cases he : i = bs.length
      · rw [if_pos he, he, List.append_assoc, List.getElem?_append_right (Nat.le_refl _), Nat.sub_self]
        rfl
      · rw [if_neg he, List.getElem?_append_right (by simp; omega)]
        rw [List.getElem?_append_right (by omega)] at hold
        simp only [zerosB, List.getElem?_replicate] at hold ⊢
        rw [if_pos (by omega)] at hold
        rw [if_pos (by simp; omega)]
        exact hold.symm
  · rw [List.getElem?_eq_none (by rw [BB_len, List.length_set]; omega), List.getElem?_eq_none (by simp [zerosB]; omega)]

theorem add_grow {wr w6 : World} {g base : Nat} {v v6 : Value} {m : Int} {l : List UInt8} {o : Obj} (hH : Hd wr g v m) (hgb : g < base) (hbw : base ≤ wr.heap.size) (ho : Own wr base v l) (o6 : Own w6 base v6 (l ++ [byteOf 0])) (g6 : (wr.alloc o).grownBy w6 v.ownBlock) :
    ∃ h cap, v6 = .slice (some ⟨h, 0, none⟩) (l.length + 1) cap ∧ Hd w6 g v m ∧ base ≤ h ∧ h ≠ g ∧ base ≤ w6.heap.size ∧ l.length + 1 ≤ cap ∧ cap ≤ maxLen ∧ Below g wr w6 := by
  have hz := g6.size
  rw [World.size_alloc] at hz
  rcases o6.shape with ⟨_, h⟩ | ⟨h, cap, rfl, h1, h2, h3, h4⟩
  · simp at h
  · rw [List.length_append] at h3
    refine ⟨h, cap, by simp, (hH.alloc o).grown g6 ?_, h1, by omega, by omega, h3, h4, ?_⟩
    · intro e
      have := (ho.lt g e.symm).1
      omega
    · exact Below.grown ((Below.refl _ _).alloc (Nat.le_of_lt (by omega)) o) g6 (by rw [World.size_alloc]; omega) (fun k hk => by have := (ho.lt k hk).1; omega)
set_option maxHeartbeats 2000000 in
theorem hadd_any (g base : Nat) (bs : List Int) (c : Int) (n : Nat) (w : World) (h : Bits w g base bs) (c0 : 0 ≤ c) (c1 : c ≤ 4294967296) (hn : n ≤ 30) (hbs : bs.length ≤ 100000000000) :
    Calls Tryd.prog 95 #[.pointer (some ⟨g, 0, none⟩), .int .i64 c, .int .i64 (n : Int)] w fun e w' => e = .returned (.tuple #[]) ∧ Bits w' g base (bs ++ low c n) ∧ Below g w w' := by
  go_enter Tryd.func95, Tryd.ntmps95
  go_wp2_with fail
  go_loopw [6] (fun vk wr => ∃ (j : Nat), j ≤ n ∧ vk = .int .i64 ((j : Int) - 1) ∧ Hid (Bits wr g base (bs ++ low (c / 2 ^ j) (n - j))) ∧ Below g w wr) (fun vk _ => (intOf vk + 1).toNat)
  case atStart => exact ⟨n, Nat.le_refl _, rfl, Lib.hid (by rw [Nat.sub_self]; simpa [low] using h), Below.refl _ _⟩
  case round =>
    obtain ⟨j, hj, rfl, HBI, hbel⟩ := hrel
    by_cases hj0 : j = 0
    · subst hj0
      go_wp2_with fail
      go_end0
      have hb := HBI.out
      rw [Nat.sub_zero, show c / 2 ^ 0 = c by simp] at hb
      exact ⟨rfl, hb, hbel⟩
    · obtain ⟨j, rfl⟩ : ∃ j', j = j' + 1 := ⟨j - 1, by omega⟩
      rw [show (((j + 1 : Nat) : Int) - 1) = (j : Int) by omega]
      obtain ⟨v, l, p, hH, hgb, hbw, ho, hBB, hp⟩ := HBI.out
      obtain ⟨B, hB⟩ : ∃ B, B = bs ++ low (c / 2 ^ (j + 1)) (n - (j + 1)) := ⟨_, rfl⟩
      rw [← hB] at hH hBB
      have hnext : bs ++ low (c / 2 ^ j) (n - j) = B ++ [c / 2 ^ j % 2] := by
        rw [hB, show n - j = (n - (j + 1)) + 1 by omega]
        simp only [low]
        rw [show (2 : Int) ^ (j + 1) = 2 ^ j * 2 from Int.pow_succ _ _, ← Int.ediv_ediv_of_nonneg (Int.pow_nonneg (by decide)), List.append_assoc]
      have hBl : B.length ≤ 100000000030 := by rw [hB, List.length_append, low_len]; omega
      have hlen := congrArg List.length hBB
      rw [BB_len, List.length_append] at hlen
      simp only [zerosB, List.length_replicate] at hlen
      have HB := Lib.hid hB
      have HN := Lib.hid hnext
      have HBB := Lib.hid hBB
      clear hB hnext hBB HBI
      have e0 : (j : Int) + 1 - 1 = (j : Int) := by omega
      have hcj0 : 0 ≤ c / 2 ^ j := Int.ediv_nonneg c0 (Int.pow_nonneg (by decide))
      have hcj1 : c / 2 ^ j ≤ 4294967296 := by
        have : c / 2 ^ j ≤ c := Int.ediv_le_self _ c0
        omega
      have hc0 := hH.c0
      have hc1 := hH.c1
      have hf0 := hH.f0
      have hf1 := hH.f1
      have hx0 := bits_mask .i64 63 (by decide) wraps_i64 1 (by decide) (c / 2 ^ j) (by omega) (by omega)
      rw [show ((2 : Int) ^ 1 - 1) = 1 by decide, show ((2 : Int) ^ 1) = 2 by decide] at hx0
      have HX0 := Lib.hid hx0
      clear hx0
      go_upto_if 18 with fail
      go_cut [] (fun wx => ∃ (W : World) (h cap p7 : Nat) (l7 : List UInt8), W = wx ∧ Hd wx g (.slice (some ⟨h, 0, none⟩) l7.length cap) (B.length : Int) ∧ base ≤ h ∧ base ≤ wx.heap.size ∧ l7.length ≤ cap ∧ cap ≤ maxLen ∧ Own wx base (.slice (some ⟨h, 0, none⟩) l7.length cap) l7 ∧ Hid (BB l7 = B ++ zerosB (p7 + 1)) ∧ p7 < 8 ∧ Below g wr wx)
      case first =>
        by_cases hm : B.length % 8 = 0
        · have hmB : (((B.length : Int) % 8) == 0) = true := by simp; omega
          have hp0 : p = 0 := by omega
          go_wp2_with (at_builtin; refine wpList_push rfl (.tmp 23) (.tmp 24) rfl base v l rfl (ho.aft ((Aft.refl _).alloc _)) ⟨wr.heap.size, 0, none⟩ 1 0 rfl (cell_new1 _ _ _) (by decide) (by decide) (by omega) (le_alloc hbw _) ?_; intro v6 w6 o6 g6; obtain ⟨h, cap, rfl, hH6, hbh, hhg, hbw6, hlc, hcm, hbel6⟩ := add_grow hH hgb hbw ho o6 g6; have k0 := hH6.c0; have k1 := hH6.c1; have k2 := hH6.f0; have k3 := hH6.f1)
          go_meet
          have hl1 : (l ++ [byteOf 0]).length = l.length + 1 := by simp
          have h0b : BB [byteOf 0] = zerosB 8 := by decide +kernel
          refine ⟨_, h, cap, 7, l ++ [byteOf 0], rfl, ?_, hbh, by simpa [World.setCell] using hbw6, by omega, hcm, ?_, Lib.hid ?_, by omega, hbel6.setCell (Nat.le_refl _) _⟩
          · rw [hl1]; exact hH6.set0 _
          · rw [hl1]; exact o6.far (p := ⟨g, 0, none⟩) hgb _
          · rw [BB_append, HBB.out, hp0, h0b]
            simp [zerosB]
        · have hmB : (((B.length : Int) % 8) == 0) = false := by simp; omega
          go_wp2_with fail
          go_meet
          rcases ho.shape with ⟨_, e⟩ | ⟨h, cap, rfl, h1, h2, h3, h4⟩
          · subst e; simp at hlen; omega
          · exact ⟨_, h, cap, p - 1, l, rfl, hH, h1, hbw, h3, h4, ho, Lib.hid (by rw [show p - 1 + 1 = p by omega]; exact HBB.out), by omega, Below.refl _ _⟩
      case rest =>
        obtain ⟨W7, h, cap, p7, l7, hW7, hH7, hbh, hbw7, hlc, hcm, ho7, HB7, hp7, hbel7⟩ := hcut
        subst hW7
        have hhg : h ≠ g := by omega
        have k0 := hH7.c0
        have k1 := hH7.c1
        have k2 := hH7.f0
        have k3 := hH7.f1
        obtain ⟨hq, hs1, hs2⟩ := BB_set HB7.out hp7
        have q1 : (B.length : Int) / 8 < (l7.length : Int) := by omega
        have c7 : W7.cell? ⟨h, B.length / 8, none⟩ = some (.int .u8 (l7[B.length / 8].toNat : Int)) := by
          have hx := World.ownsRow.cellAt ho7 (B.length / 8) (by omega)
          rw [hx]
          unfold bv
          rw [List.getElem?_map, List.getElem?_eq_getElem hq]
          rfl
        have f7 : W7.frozen? ⟨h, B.length / 8, none⟩ = false := World.ownsRow.frozenAt ho7 _
        have y1 := (l7[B.length / 8]).toNat_lt
        generalize (l7[B.length / 8]).toNat = y at *
        have HS1 := Lib.hid hs1
        have HS2 := Lib.hid hs2
        clear hc0 hc1 hf0 hf1 hs1 hs2
        by_cases hbit : c / 2 ^ j % 2 = 1
        · have hbB : (bits .and .i64 (c / 2 ^ j) 1 == 1) = true := by rw [HX0.out, hbit]; rfl
          go_wp2_with fail
          go_region
          go_wp2_with fail
          go_roundw
          case rel =>
            refine ⟨j, by omega, rfl, Lib.hid ?_, ?_⟩
            · rw [HN.out, hbit]
              have hput : Own (W7.setCell ⟨h, B.length / 8, none⟩ (.int .u8 (bits .or .u8 (y : Int) (128 / 2 ^ (B.length % 8))))) base (.slice (some ⟨h, 0, none⟩) l7.length cap) (l7.set (B.length / 8) (byteOf (bits .or .u8 (y : Int) (128 / 2 ^ (B.length % 8))))) := by
                have := ho7.put (B.length / 8) (byteOf (bits .or .u8 (y : Int) (128 / 2 ^ (B.length % 8))))
                rw [← HS1.out] at this
                exact this
              refine ⟨.slice (some ⟨h, 0, none⟩) l7.length cap, l7.set (B.length / 8) (byteOf (bits .or .u8 (y : Int) (128 / 2 ^ (B.length % 8)))), p7, ?_, hgb, ?_, ?_, HS2.out, hp7⟩
              · rw [List.length_append]
                exact ((hH7.far (p := ⟨h, B.length / 8, none⟩) hhg _).set1 _).drew
              · simpa [World.setCell] using hbw7
              · exact (hput.far (p := ⟨g, 1, none⟩) hgb _).drew
            · exact ((((hbel.trans hbel7).setCell (p := ⟨h, B.length / 8, none⟩) (by show g ≤ h; omega) _).setCell (p := ⟨g, 1, none⟩) (Nat.le_refl _) _).drew)
          case measure => simp [intOf] <;> omega
        · have hbB : (bits .and .i64 (c / 2 ^ j) 1 == 1) = false := by rw [HX0.out]; simpa using hbit
          go_wp2_with fail
          go_roundw
          case rel =>
            refine ⟨j, by omega, rfl, Lib.hid ?_, ?_⟩
            · rw [HN.out, show c / 2 ^ j % 2 = 0 by omega]
              refine ⟨_, l7, p7, by rw [List.length_append]; exact hH7.set1 _, hgb, by simpa [World.setCell] using hbw7, ho7.far (p := ⟨g, 1, none⟩) hgb _, ?_, hp7⟩
              rw [HB7.out]
              simp [zerosB, List.replicate_succ]
            · exact (hbel.trans hbel7).setCell (Nat.le_refl _) _
          case measure => simp [intOf] <;> omega

end Go.Proofs.YtmlnboibclfmcaaDoor
namespace Go.Proofs.YtmlnboibclfmcaaDoor
open Go.RowKit

theorem Bits.new (w : World) (t : TypeId) : Bits (w.alloc (.cells #[.slice none 0 0, .int .i64 0] t)) w.heap.size (w.heap.size + 1) [] := by
  refine ⟨.slice none 0 0, [], 0, ⟨?_, ?_, ?_, ?_, by simp⟩, by omega, by simp, Own.nil _ _, rfl, by omega⟩
  all_goals
    simp only [World.cell?, World.frozen?, heap_new]
    simp
theorem rcode_byte (x : UInt8) (w : World) :
    Calls Tryd.prog 94 #[.int .i64 (wrap64 (x.toNat : Int))] w fun e w' => ∃ (c : Int) (n : Nat), Hid (symBits x = low c n) ∧ 0 ≤ c ∧ c ≤ 4294967296 ∧ n ≤ 30 ∧ e = .returned (.tuple #[.int .i64 c, .int .i64 (n : Int)]) ∧ Aft w w' := by
  have hx := x.toNat_lt
  rw [IntWalk.wrap64_in _ ⟨by omega, by omega⟩]
  refine (rcode_in x.toNat (by omega) w).mono ?_
  rintro e w' ⟨rfl, h⟩
  have hb := byte_code x
  exact ⟨_, _, Lib.hid rfl, hb.1, hb.2, (Hp.lensL_bd x.toNat (by omega)).2, rfl, h⟩

theorem enc_uniq {l m : List UInt8} {q : Nat} (hq : q < 8) (h : BB m = encBits l ++ ones q) : m = encF l := by
  obtain ⟨p, hp, h2⟩ := encF_bits l
  have l1 := congrArg List.length h
  have l2 := congrArg List.length h2
  rw [List.length_append, BB_len] at l1 l2
  simp only [ones, List.length_replicate] at l1 l2
  have : p = q := by omega
  subst this
  exact BB_inj _ _ (h.trans h2.symm)
theorem one_bit (l : List Int) (q : Nat) : l ++ ones q ++ low 1 1 = l ++ ones (q + 1) := by
  rw [List.append_assoc, show low 1 1 = ones 1 by decide, show ones q ++ ones 1 = ones (q + 1) by unfold ones; rw [List.replicate_append_replicate]]
set_option maxHeartbeats 2000000 in
theorem renc_any (s : ByteArray) (w : World) (hs : s.size ≤ 100000000) :
    Calls Tryd.prog 80 #[.string s] w fun e w' => ∃ v, e = .returned v ∧ Own w' w.heap.size v (encF s.data.toList) ∧ Aft w w' := by
  go_enter Tryd.func80, Tryd.ntmps80
  go_wp2_with fail
  obtain ⟨g, hg⟩ : ∃ g, w.heap.size = g := ⟨_, rfl⟩
  have hB0 := Bits.new w 132
  have hA0 : Below g w (w.alloc (.cells #[.slice none 0 0, .int .i64 0] 132)) := (Below.refl _ _).alloc (by omega) _
  rw [hg] at hB0 ⊢
  have HG := Lib.hid hg
  have HB0 := Lib.hid hB0
  clear hg hB0
  generalize w.alloc (.cells #[.slice none 0 0, .int .i64 0] 132) = w1 at *
  have g1 : IntKind.i64.wrap 1 = 1 := IntWalk.i64_in _ (by omega)
  clear g1
  go_loopw [4, 5, 6] (fun vk _ _ wr => ∃ k : Nat, k ≤ s.size ∧ vk = .int .i64 (k : Int) ∧ Hid (Bits wr g (g + 1) (encBits (s.data.toList.take k))) ∧ Below g w wr) (fun vk _ _ _ => s.size - (intOf vk).toNat)
  case atStart => exact ⟨0, by omega, by go_num, HB0, hA0⟩
  case round =>
    obtain ⟨k, hk, rfl, HBI, hbel⟩ := hrel
    by_cases hlt : k < s.size
    · have hkl : k < s.data.toList.length := by rw [size_len]; exact hlt
      have hsn : encBits (s.data.toList.take (k + 1)) = encBits (s.data.toList.take k) ++ symBits s[k] := by
        rw [List.take_succ_eq_append_getElem hkl, encBits_append, encBits_one]
        rfl
      have hl := encBits_len (s.data.toList.take k)
      rw [List.length_take] at hl
      have hl2 : (encBits (s.data.toList.take k)).length ≤ 100000000000 := by omega
      have HSN := Lib.hid hsn
      clear hsn hl
      go_wp2_with fail
      refine (rcode_byte s[k] _).mono ?_
      rintro e w2 ⟨c, n, HL, c0, c1, hn, rfl, b2⟩
      have HB2 : Hid (Bits w2 g (g + 1) (encBits (s.data.toList.take k))) := by
        obtain ⟨v, l, p, h1, h2, h3, h4, h5, h6⟩ := HBI.out
        exact Lib.hid ⟨v, l, p, h1.aft b2, h2, Nat.le_trans h3 b2.size, h4.aft b2, h5, h6⟩
      have hbel2 : Below g w w2 := hbel.trans (Below.mono b2 (by obtain ⟨v, l, p, h1, h2, h3, _⟩ := HBI.out; omega))
      go_wp2_with fail
      refine (hadd_any g (g + 1) _ c n _ HB2.out c0 c1 hn hl2).mono ?_
      rintro e w3 ⟨rfl, hB3, b3⟩
      rw [← HL.out, ← HSN.out] at hB3
      have HB3 := Lib.hid hB3
      clear hB3
      go_wp2_with fail
      go_roundw
      case rel => exact ⟨k + 1, by omega, by go_num, HB3, hbel2.trans b3⟩
      case measure => simp [intOf]; omega
    · have hkk : s.data.toList.take k = s.data.toList := List.take_of_length_le (by rw [size_len]; omega)
      rw [hkk] at HBI
      have hl := encBits_len s.data.toList
      rw [size_len] at hl
      clear hkk
      go_wp2_with fail
      obtain ⟨L, hL⟩ : ∃ L, (encBits s.data.toList).length = L := ⟨_, rfl⟩
      rw [hL] at hl
      have HLL := Lib.hid hL
      clear hL
      go_loopw [] (fun wi => ∃ q : Nat, q ≤ (8 - L % 8) % 8 ∧ Hid (Bits wi g (g + 1) (encBits s.data.toList ++ ones q)) ∧ Below g w wi) (fun wi => match wi.cell? ⟨g, 1, none⟩ with | some (.int _ n) => ((8 - n % 8) % 8).toNat | _ => 0)
      case atStart => exact ⟨0, by omega, by simpa [ones] using HBI, hbel⟩
      case round =>
        obtain ⟨q, hq, HB, hbeli⟩ := hrel
        obtain ⟨v, l, p, hH, h2, h3, ho, hBB, hp⟩ := HB.out
        have hlen := congrArg List.length hBB
        rw [BB_len, List.length_append] at hlen
        have hLq : (encBits s.data.toList ++ ones q).length = L + q := by rw [List.length_append, HLL.out]; simp [ones]
        rw [hLq] at hlen hH
        simp only [zerosB, List.length_replicate] at hlen
        have hc0 := hH.c0
        have hc1 := hH.c1
        have HBB := Lib.hid hBB
        have HLQ := Lib.hid hLq
        clear hBB hLq
        by_cases hm : (L + q) % 8 = 0
        · have hmB : ((((L + q : Nat) : Int) % 8) != 0) = false := by simp; omega
          go_wp2_with fail
          go_ret
          have hp0 : p = 0 := by omega
          have hfin := HBB.out
          rw [hp0] at hfin
          have := enc_uniq (q := q) (by omega) (by simpa [zerosB] using hfin)
          rw [← this]
          exact ⟨_, rfl, ho.base (by rw [HG.out]; omega), by unfold Aft; rw [HG.out]; exact hbeli⟩
        · have hmB : ((((L + q : Nat) : Int) % 8) != 0) = true := by simp; omega
          go_wp2_with fail
          refine (hadd_any g (g + 1) _ 1 1 _ HB.out (by decide) (by decide) (by decide) (by rw [HLQ.out]; omega)).mono ?_
          rintro e w3 ⟨rfl, hB3, b3⟩
          rw [one_bit] at hB3
          have hn1 : w3.cell? ⟨g, 1, none⟩ = some (.int .i64 ((L + (q + 1) : Nat) : Int)) := by
            obtain ⟨_, _, _, h, _⟩ := hB3
            rw [h.c1, List.length_append, HLL.out]
            simp [ones]
          have HB3 := Lib.hid hB3
          have HN1 := Lib.hid hn1
          have HC1 := Lib.hid hc1
          clear hB3 hn1
          go_wp2_with fail
          go_roundw
          case rel => exact ⟨q + 1, by omega, HB3, hbeli.trans b3⟩
          case measure => rw [HN1.out, HC1.out]; simp only; omega

end Go.Proofs.YtmlnboibclfmcaaDoor
