/-
  The walks of huff.Code and huff.Size.
-/
import Derived.Test.YtmlnboibclfmcaaDoorHuffMade
import Derived.Deep.RegionHeld3
namespace Go.Proofs.YtmlnboibclfmcaaDoor
open Go.RowKit

/-- The code of a symbol. -/
def symCode (s : Int) : Int := if s < 0 ∨ 257 ≤ s then 0 else codeF s.toNat
theorem F3_code (i : Nat) (h : i < 257) : F3 257 (353 + i) = codeF i := by
  unfold F3
  rw [if_neg (by omega), if_neg (by omega), show 353 + i - 353 = i by omega, if_pos h]

theorem len_byteW (c : UInt8) (w : World) : Calls Tryd.prog 93 #[.int .i64 (wrap64 (c.toNat : Int))] w fun e w' => ∃ l : Nat, Hid (Hp.lenF (c.toNat : Int) = (l : Int)) ∧ 5 ≤ l ∧ l ≤ 30 ∧ e = .returned (.int .i64 (l : Int)) ∧ Aft w w' := by
  have hc := c.toNat_lt
  rw [IntWalk.wrap64_in _ ⟨by omega, by omega⟩]
  have hb := Hp.lenF_bd (c.toNat : Int) (by omega) (by omega)
  obtain ⟨l, hl⟩ := Int.eq_ofNat_of_zero_le (show 0 ≤ Hp.lenF (c.toNat : Int) by omega)
  refine (len_any _ (by omega) (by omega) w).mono fun e w' ⟨he, hw⟩ => ⟨l, hl, by omega, by omega, by rw [he, hl], hw⟩

def sizeSum (l : List UInt8) : Int := (l.map fun c => Hp.lenF (c.toNat : Int)).sum
def sizeF (l : List UInt8) : Int := (sizeSum l + 7) / 8
theorem sizeSum_snoc (l : List UInt8) (c : UInt8) : sizeSum (l ++ [c]) = sizeSum l + Hp.lenF (c.toNat : Int) := by
  unfold sizeSum
  simp
theorem byte_lenF (c : UInt8) : 5 ≤ Hp.lenF (c.toNat : Int) ∧ Hp.lenF (c.toNat : Int) ≤ 30 := by
  have := c.toNat_lt
  exact Hp.lenF_bd _ (by omega) (by omega)
theorem sizeSum_bd (l : List UInt8) : 5 * (l.length : Int) ≤ sizeSum l ∧ sizeSum l ≤ 30 * (l.length : Int) := by
  induction l with
  | nil => simp [sizeSum]
  | cons c l ih =>
    have := byte_lenF c
    have e : sizeSum (c :: l) = Hp.lenF (c.toNat : Int) + sizeSum l := by unfold sizeSum; simp
    rw [e]
    simp only [List.length_cons]
    omega

set_option maxHeartbeats 400000 in
theorem size_any (s : ByteArray) (hs : s.size ≤ 100000000000000000) (w : World) :
    Calls Tryd.prog 91 #[.string s] w fun e w' => e = .returned (.int .i64 (sizeF s.data.toList)) ∧ Aft w w' := by
  go_enter Tryd.func91, Tryd.ntmps91
  go_wp2_with fail
  go_loopw [3, 4, 7] (fun v _ c wr => ∃ k : Nat, k ≤ s.size ∧ c = .int .i64 (k : Int) ∧ v = .int .i64 (sizeSum (s.data.toList.take k)) ∧ Aft w wr) (fun _ _ c _ => s.size - (intOf c).toNat)
  case atStart => exact ⟨0, by omega, by go_num, by simp [sizeSum], Aft.refl _⟩
  case round =>
    obtain ⟨k, hk, rfl, rfl, haft⟩ := hrel
    have hsb := sizeSum_bd (s.data.toList.take k)
    have hln : (s.data.toList.take k).length = k := by rw [List.length_take, size_len]; omega
    rw [hln] at hsb
    clear hln
    by_cases hlt : k < s.size
    · have hkl : k < s.data.toList.length := by rw [size_len]; exact hlt
      have hsn : sizeSum (s.data.toList.take (k + 1)) = sizeSum (s.data.toList.take k) + Hp.lenF (s[k].toNat : Int) := by
        rw [List.take_succ_eq_append_getElem hkl, sizeSum_snoc]
        rfl
      have HS := Lib.hid hsn
      clear hsn
      generalize sizeSum (s.data.toList.take k) = S at *
      go_wp2_with (go_at_call 93; refine (len_byteW _ _).mono ?_; rintro e w1 ⟨l, HL, l0, l1, rfl, ha⟩)
      go_roundw
      case rel => exact ⟨k + 1, by omega, by go_num, by rw [HS.out, HL.out], haft.trans ha⟩
      case measure => simp [intOf]; omega
    · have hkk : s.data.toList.take k = s.data.toList := List.take_of_length_le (by rw [size_len]; omega)
      rw [hkk] at hsb
      rw [hkk]
      clear hkk
      go_wp2_with fail
      go_ret
      exact ⟨rfl, haft⟩

end Go.Proofs.YtmlnboibclfmcaaDoor
