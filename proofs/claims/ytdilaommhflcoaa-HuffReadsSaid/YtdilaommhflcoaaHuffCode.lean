/-
  The walks of huff.Code and huff.Size.
-/
import Derived.Test.YtdilaommhflcoaaHuffMade
import Derived.Deep.RegionHeld3
namespace Go.Proofs.Ytdilaommhflcoaa
open Go.RowKit

/-- The code of a symbol. -/
def symCode (s : Int) : Int := if s < 0 ∨ 257 ≤ s then 0 else codeF s.toNat
theorem F3_code (i : Nat) (h : i < 257) : F3 257 (353 + i) = codeF i := by
  unfold F3
  rw [if_neg (by omega), if_neg (by omega), show 353 + i - 353 = i by omega, if_pos h]

set_option maxHeartbeats 1000000 in
theorem code_any (s : Int) (h0 : -9223372036854775808 ≤ s) (h1 : s ≤ 9223372036854775807) (w : World) :
    Calls Try.prog 11 #[.int .i64 s] w fun e w' => e = .returned (.tuple #[.int .i64 (symCode s), .int .i64 (Hp.lenF s)]) ∧ Aft w w' := by
  by_cases hb : s < 0 ∨ 257 ≤ s
  · have hf : symCode s = 0 ∧ Hp.lenF s = 0 := by unfold symCode Hp.lenF; rw [if_pos hb, if_pos hb]; exact ⟨rfl, rfl⟩
    have HF := Lib.hid hf
    have HB := Lib.hid hb
    clear hf hb
    go_enter Try.func11, Try.ntmps11
    go_wp2_with fail
    all_goals
      first
        | (go_ret2
           rw [HF.out.1, HF.out.2]
           exact ⟨rfl, Aft.refl _⟩)
        | (exfalso
           have := HB.out
           omega)
  · have b0 : 0 ≤ s := by omega
    have b1 : s < 257 := by omega
    have hf : symCode s = codeF s.toNat := by unfold symCode; rw [if_neg hb]
    have HF := Lib.hid hf
    clear hf hb
    go_enter Try.func11, Try.ntmps11
    go_wp2_with fail
    go_region_law (first
      | (go_simp; go_at_call 23; refine (made_any _).mono ?_; rintro e w1 ⟨rfl, hA, ha⟩; have hz : w.heap.size < w1.heap.size := hA.hb; have c1 : w1.cell? ⟨w.heap.size, 353 + s.toNat, none⟩ = some (.int .i64 (codeF s.toNat)) := (hA.cell (353 + s.toNat) (by omega)).trans (by rw [F3_code _ (by omega)]))
      | (go_simp; go_at_call 24; refine (len_any s h0 h1 _).mono ?_; rintro e w2 ⟨rfl, ha2⟩; have c2 : w2.cell? ⟨w.heap.size, 353 + s.toNat, none⟩ = some (.int .i64 (codeF s.toNat)) := (Below.cell ha2.to (p := ⟨w.heap.size, 353 + s.toNat, none⟩) hz).trans c1))
    all_goals
      go_wp2_with fail
      go_ret2
      rw [HF.out]
      exact ⟨rfl, by repeat (first | exact Aft.refl _ | assumption | refine Aft.trans ?_ (by assumption) | apply Aft.drew | apply Aft.drewN)⟩

theorem len_byteW (c : UInt8) (w : World) : Calls Try.prog 24 #[.int .i64 (wrap64 (c.toNat : Int))] w fun e w' => ∃ l : Nat, Hid (Hp.lenF (c.toNat : Int) = (l : Int)) ∧ 5 ≤ l ∧ l ≤ 30 ∧ e = .returned (.int .i64 (l : Int)) ∧ Aft w w' := by
  have hc := c.toNat_lt
  rw [IntWalk.wrap64_in _ ⟨by omega, by omega⟩]
  have hb := Hp.lenF_bd (c.toNat : Int) (by omega) (by omega)
  obtain ⟨l, hl⟩ := Int.eq_ofNat_of_zero_le (show 0 ≤ Hp.lenF (c.toNat : Int) by omega)
  refine (len_any _ (by omega) (by omega) w).mono fun e w' ⟨he, hw⟩ => ⟨l, hl, by omega, by omega, by rw [he, hl], hw⟩

def sizeSum (l : List UInt8) : Int := (l.map fun c => Hp.lenF (c.toNat : Int)).sum
def sizeF (l : List UInt8) : Int := (sizeSum l + 7) / 8
theorem sizeSum_snoc (l : List UInt8) (c : UInt8) : sizeSum (l ++ [c]) = sizeSum l + Hp.lenF (c.toNat : Int) := by
  unfold sizeSum
  simp
theorem byte_lenF (c : UInt8) : 5 ≤ Hp.lenF (c.toNat : Int) ∧ Hp.lenF (c.toNat : Int) ≤ 30 := by
  have := c.toNat_lt
  exact Hp.lenF_bd _ (by omega) (by omega)
theorem sizeSum_bd (l : List UInt8) : 5 * (l.length : Int) ≤ sizeSum l ∧ sizeSum l ≤ 30 * (l.length : Int) := by
  induction l with
  | nil => simp [sizeSum]
  | cons c l ih =>
    have := byte_lenF c
    have e : sizeSum (c :: l) = Hp.lenF (c.toNat : Int) + sizeSum l := by unfold sizeSum; simp
    rw [e]
    simp only [List.length_cons]
    omega

set_option maxHeartbeats 400000 in
theorem size_any (s : ByteArray) (hs : s.size ≤ 100000000000000000) (w : World) :
    Calls Try.prog 18 #[.string s] w fun e w' => e = .returned (.int .i64 (sizeF s.data.toList)) ∧ Aft w w' := by
  go_enter Try.func18, Try.ntmps18
  go_wp2_with fail
  go_loopw [3, 4, 7] (fun v _ c wr => ∃ k : Nat, k ≤ s.size ∧ c = .int .i64 (k : Int) ∧ v = .int .i64 (sizeSum (s.data.toList.take k)) ∧ Aft w wr) (fun _ _ c _ => s.size - (intOf c).toNat)
  case atStart => exact ⟨0, by omega, by go_num, by simp [sizeSum], Aft.refl _⟩
  case round =>
    obtain ⟨k, hk, rfl, rfl, haft⟩ := hrel
    have hsb := sizeSum_bd (s.data.toList.take k)
    have hln : (s.data.toList.take k).length = k := by rw [List.length_take, size_len]; omega
    rw [hln] at hsb
    clear hln
    by_cases hlt : k < s.size
    · have hkl : k < s.data.toList.length := by rw [size_len]; exact hlt
      have hsn : sizeSum (s.data.toList.take (k + 1)) = sizeSum (s.data.toList.take k) + Hp.lenF (s[k].toNat : Int) := by
        rw [List.take_succ_eq_append_getElem hkl, sizeSum_snoc]
        rfl
      have HS := Lib.hid hsn
      clear hsn
      generalize sizeSum (s.data.toList.take k) = S at *
      go_wp2_with (go_at_call 24; refine (len_byteW _ _).mono ?_; rintro e w1 ⟨l, HL, l0, l1, rfl, ha⟩)
      go_roundw
      case rel => exact ⟨k + 1, by omega, by go_num, by rw [HS.out, HL.out], haft.trans ha⟩
      case measure => simp [intOf]; omega
    · have hkk : s.data.toList.take k = s.data.toList := List.take_of_length_le (by rw [size_len]; omega)
      rw [hkk] at hsb
      rw [hkk]
      clear hkk
      go_wp2_with fail
      go_ret
      exact ⟨rfl, haft⟩

end Go.Proofs.Ytdilaommhflcoaa
