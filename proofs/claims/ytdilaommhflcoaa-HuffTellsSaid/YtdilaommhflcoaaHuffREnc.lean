/-
  The walk of the reference's Encode.
-/
import Derived.Test.YtdilaommhflcoaaHuffRAdd
import Derived.Test.YtdilaommhflcoaaHuffWJoins
namespace Go.Proofs.Ytdilaommhflcoaa
open Go.RowKit

theorem Bits.new (w : World) (t : TypeId) : Bits (w.alloc (.cells #[.slice none 0 0, .int .i64 0] t)) w.heap.size (w.heap.size + 1) [] := by
  refine ⟨.slice none 0 0, [], 0, ⟨?_, ?_, ?_, ?_, by simp⟩, by omega, by simp, Own.nil _ _, rfl, by omega⟩
  all_goals
    simp only [World.cell?, World.frozen?, heap_new]
    simp
theorem rcode_byte (x : UInt8) (w : World) :
    Calls Try.prog 16 #[.int .i64 (wrap64 (x.toNat : Int))] w fun e w' => ∃ (c : Int) (n : Nat), Hid (symBits x = low c n) ∧ 0 ≤ c ∧ c ≤ 4294967296 ∧ n ≤ 30 ∧ e = .returned (.tuple #[.int .i64 c, .int .i64 (n : Int)]) ∧ Aft w w' := by
  have hx := x.toNat_lt
  rw [IntWalk.wrap64_in _ ⟨by omega, by omega⟩]
  refine (rcode_in x.toNat (by omega) w).mono ?_
  rintro e w' ⟨rfl, h⟩
  have hb := byte_code x
  exact ⟨_, _, Lib.hid rfl, hb.1, hb.2, (Hp.lensL_bd x.toNat (by omega)).2, rfl, h⟩

theorem enc_uniq {l m : List UInt8} {q : Nat} (hq : q < 8) (h : BB m = encBits l ++ ones q) : m = encF l := by
  obtain ⟨p, hp, h2⟩ := encF_bits l
  have l1 := congrArg List.length h
  have l2 := congrArg List.length h2
  rw [List.length_append, BB_len] at l1 l2
  simp only [ones, List.length_replicate] at l1 l2
  have : p = q := by omega
  subst this
  exact BB_inj _ _ (h.trans h2.symm)
theorem one_bit (l : List Int) (q : Nat) : l ++ ones q ++ low 1 1 = l ++ ones (q + 1) := by
  rw [List.append_assoc, show low 1 1 = ones 1 by decide, show ones q ++ ones 1 = ones (q + 1) by unfold ones; rw [List.replicate_append_replicate]]
set_option maxHeartbeats 2000000 in
theorem renc_any (s : ByteArray) (w : World) (hs : s.size ≤ 100000000) :
    Calls Try.prog 17 #[.string s] w fun e w' => ∃ v, e = .returned v ∧ Own w' w.heap.size v (encF s.data.toList) ∧ Aft w w' := by
  go_enter Try.func17, Try.ntmps17
  go_wp2_with fail
  obtain ⟨g, hg⟩ : ∃ g, w.heap.size = g := ⟨_, rfl⟩
  have hB0 := Bits.new w 55
  have hA0 : Below g w (w.alloc (.cells #[.slice none 0 0, .int .i64 0] 55)) := (Below.refl _ _).alloc (by omega) _
  rw [hg] at hB0 ⊢
  have HG := Lib.hid hg
  have HB0 := Lib.hid hB0
  clear hg hB0
  generalize w.alloc (.cells #[.slice none 0 0, .int .i64 0] 55) = w1 at *
  have g1 : IntKind.i64.wrap 1 = 1 := IntWalk.i64_in _ (by omega)
  clear g1
  go_loopw [4, 5, 6] (fun vk _ _ wr => ∃ k : Nat, k ≤ s.size ∧ vk = .int .i64 (k : Int) ∧ Hid (Bits wr g (g + 1) (encBits (s.data.toList.take k))) ∧ Below g w wr) (fun vk _ _ _ => s.size - (intOf vk).toNat)
  case atStart => exact ⟨0, by omega, by go_num, HB0, hA0⟩
  case round =>
    obtain ⟨k, hk, rfl, HBI, hbel⟩ := hrel
    by_cases hlt : k < s.size
    · have hkl : k < s.data.toList.length := by rw [size_len]; exact hlt
      have hsn : encBits (s.data.toList.take (k + 1)) = encBits (s.data.toList.take k) ++ symBits s[k] := by
        rw [List.take_succ_eq_append_getElem hkl, encBits_append, encBits_one]
        rfl
      have hl := encBits_len (s.data.toList.take k)
      rw [List.length_take] at hl
      have hl2 : (encBits (s.data.toList.take k)).length ≤ 100000000000 := by omega
      have HSN := Lib.hid hsn
      clear hsn hl
      go_wp2_with fail
      refine (rcode_byte s[k] _).mono ?_
      rintro e w2 ⟨c, n, HL, c0, c1, hn, rfl, b2⟩
      have HB2 : Hid (Bits w2 g (g + 1) (encBits (s.data.toList.take k))) := by
        obtain ⟨v, l, p, h1, h2, h3, h4, h5, h6⟩ := HBI.out
        exact Lib.hid ⟨v, l, p, h1.aft b2, h2, Nat.le_trans h3 b2.size, h4.aft b2, h5, h6⟩
      have hbel2 : Below g w w2 := hbel.trans (Below.mono b2 (by obtain ⟨v, l, p, h1, h2, h3, _⟩ := HBI.out; omega))
      go_wp2_with fail
      refine (add_any g (g + 1) _ c n _ HB2.out c0 c1 hn hl2).mono ?_
      rintro e w3 ⟨rfl, hB3, b3⟩
      rw [← HL.out, ← HSN.out] at hB3
      have HB3 := Lib.hid hB3
      clear hB3
      go_wp2_with fail
      go_roundw
      case rel => exact ⟨k + 1, by omega, by go_num, HB3, hbel2.trans b3⟩
      case measure => simp [intOf]; omega
    · have hkk : s.data.toList.take k = s.data.toList := List.take_of_length_le (by rw [size_len]; omega)
      rw [hkk] at HBI
      have hl := encBits_len s.data.toList
      rw [size_len] at hl
      clear hkk
      go_wp2_with fail
      obtain ⟨L, hL⟩ : ∃ L, (encBits s.data.toList).length = L := ⟨_, rfl⟩
      rw [hL] at hl
      have HLL := Lib.hid hL
      clear hL
      go_loopw [] (fun wi => ∃ q : Nat, q ≤ (8 - L % 8) % 8 ∧ Hid (Bits wi g (g + 1) (encBits s.data.toList ++ ones q)) ∧ Below g w wi) (fun wi => match wi.cell? ⟨g, 1, none⟩ with | some (.int _ n) => ((8 - n % 8) % 8).toNat | _ => 0)
      case atStart => exact ⟨0, by omega, by simpa [ones] using HBI, hbel⟩
      case round =>
        obtain ⟨q, hq, HB, hbeli⟩ := hrel
        obtain ⟨v, l, p, hH, h2, h3, ho, hBB, hp⟩ := HB.out
        have hlen := congrArg List.length hBB
        rw [BB_len, List.length_append] at hlen
        have hLq : (encBits s.data.toList ++ ones q).length = L + q := by rw [List.length_append, HLL.out]; simp [ones]
        rw [hLq] at hlen hH
        simp only [zerosB, List.length_replicate] at hlen
        have hc0 := hH.c0
        have hc1 := hH.c1
        have HBB := Lib.hid hBB
        have HLQ := Lib.hid hLq
        clear hBB hLq
        by_cases hm : (L + q) % 8 = 0
        · have hmB : ((((L + q : Nat) : Int) % 8) != 0) = false := by simp; omega
          go_wp2_with fail
          go_ret
          have hp0 : p = 0 := by omega
          have hfin := HBB.out
          rw [hp0] at hfin
          have := enc_uniq (q := q) (by omega) (by simpa [zerosB] using hfin)
          rw [← this]
          exact ⟨_, rfl, ho.base (by rw [HG.out]; omega), by unfold Aft; rw [HG.out]; exact hbeli⟩
        · have hmB : ((((L + q : Nat) : Int) % 8) != 0) = true := by simp; omega
          go_wp2_with fail
          refine (add_any g (g + 1) _ 1 1 _ HB.out (by decide) (by decide) (by decide) (by rw [HLQ.out]; omega)).mono ?_
          rintro e w3 ⟨rfl, hB3, b3⟩
          rw [one_bit] at hB3
          have hn1 : w3.cell? ⟨g, 1, none⟩ = some (.int .i64 ((L + (q + 1) : Nat) : Int)) := by
            obtain ⟨_, _, _, h, _⟩ := hB3
            rw [h.c1, List.length_append, HLL.out]
            simp [ones]
          have HB3 := Lib.hid hB3
          have HN1 := Lib.hid hn1
          have HC1 := Lib.hid hc1
          clear hB3 hn1
          go_wp2_with fail
          go_roundw
          case rel => exact ⟨q + 1, by omega, HB3, hbeli.trans b3⟩
          case measure => rw [HN1.out, HC1.out]; simp only; omega

end Go.Proofs.Ytdilaommhflcoaa
