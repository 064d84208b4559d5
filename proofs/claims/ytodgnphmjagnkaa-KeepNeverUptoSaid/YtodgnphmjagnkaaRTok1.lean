/-
  The walks of the reference's small functions of chapter 14: tchar, Token, blank.
-/
import Derived.Test.YtodgnphmjagnkaaTokTrim
import Derived.Test.YtodgnphmjagnkaaTokLawT
namespace Go.Proofs.Ytodgnphmjagnkaa
open Go.RowKit

def othersU : List UInt8 := [33, 35, 36, 37, 38, 39, 42, 43, 45, 46, 94, 95, 96, 124, 126]
def rangesB (n : Int) : Bool := (decide (97 ≤ n) && decide (n ≤ 122)) || ((decide (65 ≤ n) && decide (n ≤ 90)) || (decide (48 ≤ n) && decide (n ≤ 57)))
theorem sign_ref (c : UInt8) : signB c = (rangesB (c.toNat : Int) || othersU.any fun x => (x.toNat : Int) == (c.toNat : Int)) := by
  have := all_bytes (p := fun c => signB c == (rangesB (c.toNat : Int) || othersU.any fun x => (x.toNat : Int) == (c.toNat : Int))) (by decide +kernel) c
  exact eq_of_beq this
theorem any_take_succ {p : UInt8 → Bool} {l : List UInt8} {k : Nat} (hk : k < l.length) : (l.take (k + 1)).any p = ((l.take k).any p || p l[k]) := by
  rw [List.take_succ_eq_append_getElem hk, List.any_append]
  simp
theorem any_true_of {p : UInt8 → Bool} {l : List UInt8} {k : Nat} (hk : k < l.length) (h : p l[k] = true) : l.any p = true := by
  rw [List.any_eq_true]
  exact ⟨l[k], List.getElem_mem hk, h⟩

set_option maxHeartbeats 4000000 in
theorem tchar_any (c : UInt8) (w : World) :
    Calls Try.prog 66 #[.int .u8 (c.toNat : Int)] w fun e w' => e = .returned (.bool (signB c)) ∧ w = w' := by
  have h0 : 0 ≤ (c.toNat : Int) := by omega
  have h1 : (c.toNat : Int) ≤ 255 := by have := c.toNat_lt; omega
  obtain ⟨b, hb⟩ : ∃ b, signB c = b := ⟨_, rfl⟩
  rw [hb]
  rw [sign_ref] at hb
  generalize (c.toNat : Int) = n at *
  by_cases hr : rangesB n = true
  · have hr2 : (97 ≤ n ∧ n ≤ 122) ∨ (65 ≤ n ∧ n ≤ 90) ∨ (48 ≤ n ∧ n ≤ 57) := by
      unfold rangesB at hr
      simpa using hr
    have hbt : b = true := by rw [← hb, hr]; rfl
    subst hbt
    clear hr hb
    rcases hr2 with ⟨a, b⟩ | ⟨a, b⟩ | ⟨a, b⟩
    all_goals
      go_enter Try.func66, Try.ntmps66
      go_wp2_with fail
      all_goals
        go_ret
        exact ⟨rfl, rfl⟩
  · have hr2 : ¬ (97 ≤ n ∧ n ≤ 122) ∧ ¬ (65 ≤ n ∧ n ≤ 90) ∧ ¬ (48 ≤ n ∧ n ≤ 57) := by
      unfold rangesB at hr
      simp at hr
      omega
    have hr3 : rangesB n = false := by simpa using hr
    rw [hr3, Bool.false_or] at hb
    have HBX := Lib.hid hb
    have hreg : n < 48 ∨ (57 < n ∧ n < 65) ∨ (90 < n ∧ n < 97) ∨ 122 < n := by omega
    clear hr hr2 hr3 hb
    rcases hreg with a | ⟨a, b⟩ | ⟨a, b⟩ | a
    all_goals
      go_enter Try.func66, Try.ntmps66
      go_wp2_with fail
      go_loop [3] (fun vi => ∃ k : Nat, k ≤ 15 ∧ vi = .int .i64 (k : Int) ∧ Hid ((othersU.take k).any (fun x => (x.toNat : Int) == n) = false)) (fun vi => 15 - (intOf vi).toNat)
      case atStart => exact ⟨0, by omega, by go_num, Lib.hid rfl⟩
      case round =>
        obtain ⟨k, hk, rfl, HK⟩ := hrel
        by_cases hk15 : k < 15
        · have HT : Hid (((othersU[k]'hk15).toNat == n : Bool) = true → othersU.any (fun x => (x.toNat : Int) == n) = true) := Lib.hid fun h => any_true_of (k := k) hk15 h
          have HF : Hid (((othersU[k]'hk15).toNat == n : Bool) = false → (othersU.take (k + 1)).any (fun x => (x.toNat : Int) == n) = false) := Lib.hid fun h => by
            rw [any_take_succ (l := othersU) hk15, HK.out, Bool.false_or]
            exact h
          go_wp2_with fail
          · go_ret
            refine ⟨ret_bool ?_, rfl⟩
            rw [← HBX.out]
            exact (HT.out (by assumption)).symm
          · go_round
            case rel => exact ⟨k + 1, by omega, by go_num, Lib.hid (HF.out (by assumption))⟩
            case measure => simp [intOf]; omega
        · have hk2 : k = 15 := by omega
          have hno : othersU.any (fun x => (x.toNat : Int) == n) = false := by
            have := HK.out
            rw [hk2] at this
            exact this
          rw [HBX.out] at hno
          subst hno
          go_wp2_with fail
          go_ret
          exact ⟨rfl, rfl⟩

end Go.Proofs.Ytodgnphmjagnkaa
