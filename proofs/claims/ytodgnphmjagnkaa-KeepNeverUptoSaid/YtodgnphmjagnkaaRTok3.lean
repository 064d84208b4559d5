/-
  The walk of the reference's Lower.
-/
import Derived.Test.YtodgnphmjagnkaaRTok2
import Derived.Test.YtodgnphmjagnkaaTokUnq
namespace Go.Proofs.Ytodgnphmjagnkaa
open Go.RowKit

set_option maxHeartbeats 1000000 in
theorem rlower_any (s : ByteArray) (w : World) (hs : s.size ≤ maxLen) :
    Calls Try.prog 57 #[.string s] w fun e w' => e = .returned (.string ⟨(lowerL s.data.toList).toArray⟩) ∧ Aft w w' := by
  unfold maxLen at hs
  have hcv := Lib.run_convert_string_bytes (P := Try.prog) w 9 44 5 s Try.underlying9 Try.underlying44 Try.underlying5
  have hc0 := Cb.of_bytes w s
  have ha0 := aft_bytes w s
  obtain ⟨G, hG⟩ : ∃ G, w.heap.size = G := ⟨_, rfl⟩
  rw [hG] at hcv hc0
  generalize Lib.bytesWorld w 5 s = W0 at *
  generalize grownCap w s.size 0 5 = K at *
  have HG := Lib.hid hG
  have HC0 := Lib.hid hc0
  clear hG hc0
  go_enter Try.func57, Try.ntmps57
  go_wp2_with fail
  have hb0 : Below G w W0 := by have := ha0; unfold Aft at this; rw [HG.out] at this; exact this
  clear hcv ha0
  go_loopw [4] (fun vk wr => ∃ k : Nat, k ≤ s.size ∧ vk = .int .i64 (k : Int) ∧ Hid (Cb wr G (lowTo s.data.toList k)) ∧ Below G w wr) (fun vk _ => s.size - (intOf vk).toNat)
  case atStart => exact ⟨0, by omega, by go_num, by simpa [lowTo] using HC0, hb0⟩
  case round =>
    obtain ⟨k, hk, rfl, HC, hbel⟩ := hrel
    by_cases hlt : k < s.size
    · have hkl : k < s.data.toList.length := by rw [size_len]; exact hlt
      have hkl2 : k < (lowTo s.data.toList k).length := by rw [lowTo_len]; exact hkl
      have hcl := HC.out.cell k hkl2
      rw [lowTo_get hkl] at hcl
      have hfr := HC.out.free k hkl2
      have c0 : 0 ≤ (s.data.toList[k].toNat : Int) := by omega
      have c1 : (s.data.toList[k].toNat : Int) ≤ 255 := by have := (s.data.toList[k]).toNat_lt; omega
      by_cases hup : 65 ≤ s.data.toList[k].toNat ∧ s.data.toList[k].toNat ≤ 90
      · have hset := HC.out.put hkl2 (lowC s.data.toList[k])
        rw [lowTo_set hkl, lowC_up hup] at hset
        have u0 : 65 ≤ (s.data.toList[k].toNat : Int) := by omega
        have u1 : (s.data.toList[k].toNat : Int) ≤ 90 := by omega
        have HS := Lib.hid hset
        clear hset hup
        generalize (s.data.toList[k].toNat : Int) = n at *
        go_wp2_with fail
        go_roundw
        case rel => exact ⟨k + 1, by omega, by go_num, HS, hbel.setCell (Nat.le_refl _) _⟩
        case measure => simp [intOf]; omega
      · have hs2 := lowTo_same hkl (lowC_no hup)
        rw [hs2] at HC
        have hn : ¬ (65 ≤ (s.data.toList[k].toNat : Int) ∧ (s.data.toList[k].toNat : Int) ≤ 90) := by omega
        clear hup hs2
        generalize (s.data.toList[k].toNat : Int) = n at *
        by_cases hn1 : n < 65
        · go_wp2_with fail
          go_roundw
          case rel => exact ⟨k + 1, by omega, by go_num, HC, hbel⟩
          case measure => simp [intOf]; omega
        · have hn2 : 90 < n := by omega
          go_wp2_with fail
          go_roundw
          case rel => exact ⟨k + 1, by omega, by go_num, HC, hbel⟩
          case measure => simp [intOf]; omega
    · have hke : k = s.size := by omega
      have hfull : lowTo s.data.toList k = lowerL s.data.toList := by
        unfold lowTo lowerL
        rw [List.take_of_length_le (by rw [size_len]; omega), List.drop_eq_nil_of_le (by rw [size_len]; omega), List.append_nil]
      rw [hfull] at HC
      have hcs := HC.out.string (cap := K)
      rw [show (lowerL s.data.toList).length = s.size by unfold lowerL; rw [List.length_map, size_len]] at hcs
      clear hfull
      go_wp2_with fail
      go_ret
      exact ⟨rfl, by unfold Aft; rw [HG.out]; exact hbel⟩

theorem rtoken_of (s : ByteArray) (b : Bool) (h : tokB s.data.toList = b) (hs : s.size ≤ maxLen) (w : World) :
    Calls Try.prog 56 #[.string s] w fun e w' => e = .returned (.bool b) ∧ w = w' := by
  rw [← h]
  exact rtoken_any s w hs
/-- What a byte that may stand in a value is, and one that may not. -/
theorem plain_cases {c : UInt8} {b : Bool} (h : plainB c = b) : (b = true ∧ ((32 ≤ (c.toNat : Int) ∧ (c.toNat : Int) ≠ 127) ∨ (c.toNat : Int) = 9)) ∨ (b = false ∧ (((c.toNat : Int) < 32 ∧ (c.toNat : Int) ≠ 9) ∨ (c.toNat : Int) = 127)) := by
  unfold plainB at h
  cases b
  · refine Or.inr ⟨rfl, ?_⟩
    simp only [Bool.or_eq_false_iff, Bool.and_eq_false_iff, decide_eq_false_iff_not, bne_eq_false_iff_eq, beq_eq_false_iff_ne] at h
    omega
  · refine Or.inl ⟨rfl, ?_⟩
    simp only [Bool.or_eq_true, Bool.and_eq_true, decide_eq_true_eq, bne_iff_ne, beq_iff_eq] at h
    exact h

end Go.Proofs.Ytodgnphmjagnkaa
