/-
  The walk of the law's own quoted: a text as a quoted one.
-/
import Derived.Test.YtiblkkbjnlccaaaTokWTrims
namespace Go.Proofs.Ytiblkkbjnlccaaa
open Go.RowKit

def escC (c : UInt8) : List UInt8 := if c = 34 ∨ c = 92 then [92, c] else [c]
def escL (l : List UInt8) : List UInt8 := l.flatMap escC
def quoL (l : List UInt8) : List UInt8 := 34 :: (escL l ++ [34])
theorem escL_snoc (l : List UInt8) (c : UInt8) : escL (l ++ [c]) = escL l ++ escC c := by simp [escL]
theorem escC_len (c : UInt8) : (escC c).length ≤ 2 := by unfold escC; split <;> simp
theorem str_append (a b : ByteArray) : (a ++ b).data.toList = a.data.toList ++ b.data.toList := by rw [ByteArray.data_append, Array.toList_append]
def quores (l : List UInt8) : Value := if l.all plainB then .tuple #[.string ⟨(quoL l).toArray⟩, .bool true] else .tuple #[.string ⟨#[]⟩, .bool false]
theorem plain_int (n : Int) (c : UInt8) (h : (c.toNat : Int) = n) : plainB c = ((decide (32 ≤ n) && (n != 127)) || (n == 9)) := by
  unfold plainB
  rw [h]

set_option maxHeartbeats 4000000 in
theorem quo_any (s : ByteArray) (w : World) (hs : s.size ≤ 1000000) :
    Calls Try.prog 13 #[.string s] w fun e w' => e = .returned (quores s.data.toList) ∧ Aft w w' := by
  go_enter Try.func13, Try.ntmps13
  go_wp2_with fail
  go_loopw [4, 5] (fun vo vi wr => ∃ (k : Nat) (u : ByteArray), k ≤ s.size ∧ vi = .int .i64 (k : Int) ∧ vo = .string u ∧ Hid (u.data.toList = 34 :: escL (s.data.toList.take k)) ∧ Hid ((s.data.toList.take k).all plainB = true) ∧ u.size ≤ 1 + 2 * k ∧ Aft w wr) (fun _ vi _ => s.size - (intOf vi).toNat)
  case atStart => exact ⟨0, _, by omega, by go_num, rfl, Lib.hid rfl, Lib.hid (by simp), by decide, Aft.refl _⟩
  case round =>
    obtain ⟨k, u, hk, rfl, rfl, HU, HP, huz, hw⟩ := hrel
    by_cases hlt : k < s.size
    · have hkl : k < s.data.toList.length := by rw [size_len]; exact hlt
      have hall := all_take_succ (p := plainB) hkl
      rw [HP.out, Bool.true_and] at hall
      have htk : s.data.toList.take (k + 1) = s.data.toList.take k ++ [s[k]] := List.take_succ_eq_append_getElem hkl
      have hnx : (34 : UInt8) :: escL (s.data.toList.take (k + 1)) = u.data.toList ++ escC s[k] := by rw [htk, escL_snoc, HU.out]; rfl
      have hgk : s.data.toList[k] = s[k] := rfl
      rw [hgk] at hall
      have hbad : Hid (plainB s[k] = false → quores s.data.toList = .tuple #[.string ⟨#[]⟩, .bool false]) := Lib.hid fun h => by
        unfold quores
        rw [all_false_of hkl (by rw [hgk]; exact h)]
        rfl
      obtain ⟨y, hy⟩ : ∃ y : Int, (s[k].toNat : Int) = y := ⟨_, rfl⟩
      have hpl := plain_int y s[k] hy
      have y0 : 0 ≤ y := by omega
      have y1 : y < 256 := by have := (s[k]).toNat_lt; omega
      have hby : byteOf y = s[k] := by rw [← hy]; exact byteOf_self _
      have hcv := conv1 wr y y0 y1
      have hesc : escC s[k] = if y = 34 ∨ y = 92 then [92, byteOf y] else [byteOf y] := by
        unfold escC
        rw [hby]
        have e1 : s[k] = 34 ↔ y = 34 := by rw [byte_eq, hy]; rfl
        have e2 : s[k] = 92 ↔ y = 92 := by rw [byte_eq, hy]; rfl
        simp only [e1, e2]
      rw [hesc] at hnx
      have HNX := Lib.hid hnx
      have HALL := Lib.hid hall
      have HPL := Lib.hid hpl
      clear hnx hall hpl hby hesc htk hgk
      by_cases hp : plainB s[k] = true
      · have HA : Hid ((s.data.toList.take (k + 1)).all plainB = true) := Lib.hid (by rw [HALL.out, hp])
        have hpi : (32 ≤ y ∧ y ≠ 127) ∨ y = 9 := by
          have := HPL.out
          rw [hp] at this
          have h2 := this.symm
          simp only [Bool.or_eq_true, Bool.and_eq_true, decide_eq_true_eq, bne_iff_ne, beq_iff_eq] at h2
          exact h2
        have b127 : (y == 127) = false := by rw [beq_eq_false_iff_ne]; omega
        by_cases he : y = 34 ∨ y = 92
        · have HE : Hid (34 :: escL (s.data.toList.take (k + 1)) = u.data.toList ++ [92, byteOf y]) := Lib.hid (by rw [HNX.out, if_pos he])
          have h32 : 32 ≤ y := by omega
          clear hp hpi HNX HALL HPL hbad
          rcases he with h34 | h92
          · have b34 : (y == 34) = true := by rw [beq_iff_eq]; exact h34
            clear h34
            go_wp2_with fail
            go_roundw
            case rel =>
              refine ⟨k + 1, _, by omega, by go_num, rfl, Lib.hid ?_, HA, ?_, hw.alloc _⟩
              · rw [HE.out]
                simp only [str_append]
                simp
              · simp only [ByteArray.size_append]
                show u.size + 1 + 1 ≤ _; omega
            case measure => simp [intOf]; omega
          · have b34 : (y == 34) = false := by rw [beq_eq_false_iff_ne]; omega
            have b92 : (y == 92) = true := by rw [beq_iff_eq]; exact h92
            clear h92
            go_wp2_with fail
            go_roundw
            case rel =>
              refine ⟨k + 1, _, by omega, by go_num, rfl, Lib.hid ?_, HA, ?_, hw.alloc _⟩
              · rw [HE.out]
                simp only [str_append]
                simp
              · simp only [ByteArray.size_append]
                show u.size + 1 + 1 ≤ _; omega
            case measure => simp [intOf]; omega
        · have HE : Hid (34 :: escL (s.data.toList.take (k + 1)) = u.data.toList ++ [byteOf y]) := Lib.hid (by rw [HNX.out, if_neg he])
          have b34 : (y == 34) = false := by rw [beq_eq_false_iff_ne]; omega
          have b92 : (y == 92) = false := by rw [beq_eq_false_iff_ne]; omega
          clear hp HNX HALL HPL hbad he
          by_cases h32 : 32 ≤ y
          · clear hpi
            go_wp2_with fail
            go_roundw
            case rel =>
              refine ⟨k + 1, _, by omega, by go_num, rfl, Lib.hid ?_, HA, ?_, hw.alloc _⟩
              · rw [HE.out]
                simp only [str_append]
                try rfl
              · simp only [ByteArray.size_append]
                show u.size + 1 ≤ _; omega
            case measure => simp [intOf]; omega
          · have b9 : (y != 9) = false := by rw [bne_eq_false_iff_eq]; omega
            have h32' : y < 32 := by omega
            clear hpi h32
            go_wp2_with fail
            go_roundw
            case rel =>
              refine ⟨k + 1, _, by omega, by go_num, rfl, Lib.hid ?_, HA, ?_, hw.alloc _⟩
              · rw [HE.out]
                simp only [str_append]
                try rfl
              · simp only [ByteArray.size_append]
                show u.size + 1 ≤ _; omega
            case measure => simp [intOf]; omega
      · have hp' : plainB s[k] = false := by simpa using hp
        have HB := Lib.hid (hbad.out hp')
        have hpi : (y < 32 ∧ y ≠ 9) ∨ y = 127 := by
          have := HPL.out
          rw [hp'] at this
          have h2 := this.symm
          simp only [Bool.or_eq_false_iff, Bool.and_eq_false_iff, decide_eq_false_iff_not, bne_eq_false_iff_eq, beq_eq_false_iff_ne] at h2
          omega
        clear hp hp' HNX HALL HPL hbad
        rcases hpi with ⟨h1, h2⟩ | h127
        · have b9 : (y != 9) = true := by rw [bne_iff_ne]; exact h2
          clear h2
          go_wp2_with fail
          go_ret2
          rw [HB.out]
          exact ⟨rfl, hw⟩
        · have b127 : (y == 127) = true := by rw [beq_iff_eq]; exact h127
          have h32 : 32 ≤ y := by omega
          clear h127
          go_wp2_with fail
          go_ret2
          rw [HB.out]
          exact ⟨rfl, hw⟩
    · have hkk : s.data.toList.take k = s.data.toList := List.take_of_length_le (by rw [size_len]; omega)
      rw [hkk] at HU HP
      have hfin : quores s.data.toList = .tuple #[.string (u ++ ⟨#[34]⟩), .bool true] := by
        unfold quores quoL
        rw [if_pos HP.out]
        congr 4
        apply bytes_ext
        rw [str_append, HU.out]
        simp
      have HFIN := Lib.hid hfin
      clear hfin hkk
      go_wp2_with fail
      go_ret2
      rw [HFIN.out]
      exact ⟨rfl, hw⟩

end Go.Proofs.Ytiblkkbjnlccaaa
