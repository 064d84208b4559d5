/-
  The sum that Light takes of fields. The walk of reservoirkeep.Light.
-/
import Derived.Test.YtdcdckjdloddiaaLim
namespace Go.Proofs.Ytdcdckjdloddiaa
open Go.RowKit

def sumL (l : List FieldL) : Nat := (l.map fun f => f.1.length + f.2.length + 1).sum
theorem sumL_cons (f : FieldL) (l : List FieldL) : sumL (f :: l) = f.1.length + f.2.length + 1 + sumL l := by simp [sumL]
theorem sumL_append (a b : List FieldL) : sumL (a ++ b) = sumL a + sumL b := by simp [sumL]
theorem sumL_take (l : List FieldL) (k : Nat) : sumL (l.take k) ≤ sumL l := by
  have : sumL (l.take k) + sumL (l.drop k) = sumL l := by rw [← sumL_append, List.take_append_drop]
  omega
theorem sumL_mem {f : FieldL} {l : List FieldL} (h : f ∈ l) : f.1.length + f.2.length + 1 ≤ sumL l := by
  induction l with
  | nil => simp at h
  | cons g l ih =>
    rw [sumL_cons]
    rcases List.mem_cons.1 h with rfl | h
    · omega
    · have := ih h; omega
theorem sumL_len (l : List FieldL) : l.length ≤ sumL l := by
  induction l with
  | nil => simp
  | cons f l ih => rw [sumL_cons, List.length_cons]; omega

end Go.Proofs.Ytdcdckjdloddiaa
namespace Go.Proofs.Ytdcdckjdloddiaa
open Go.RowKit

set_option maxHeartbeats 4000000 in
set_option maxRecDepth 100000 in
theorem light_any (v : Value) (l : List FieldL) (w : World) (hr : RbF w v l) (hs : FieldsLim l) :
    Calls Try.prog 22 #[v] w fun e w' => e = .returned (.bool (decide (sumL l ≤ 2000))) ∧ Aft w w' := by
  obtain ⟨a1, c1, b1, o1, rfl, m1, m2, p1, q1, r1⟩ := hr.open
  unfold maxLen at m2
  have P1 := Lib.hid p1
  have R1 := Lib.hid r1
  have HS := Lib.hid hs
  have HQ := Lib.hid q1
  clear hr p1 q1 r1 hs
  go_enter Try.func22, Try.ntmps22
  go_wp2_with fail
  go_loopw [3, 4] (fun vs vi wr => ∃ (k : Nat) (s : Nat), k ≤ l.length ∧ vi = .int .i64 (k : Int) ∧ vs = .int .i64 (s : Int) ∧ s ≤ 2000 ∧ Hid (sumL (l.take k) = s) ∧ Hid (Aft w wr)) (fun _ vi _ => l.length - (intOf vi).toNat)
  case atStart => exact ⟨0, 0, by omega, by go_num, by go_num, by omega, Lib.hid rfl, Lib.hid (Aft.refl _)⟩
  case round =>
    obtain ⟨k, s, hk, rfl, rfl, hs2, HX, HA⟩ := hrel
    by_cases hlt : k < l.length
    · have hne : l ≠ [] := by intro e; rw [e] at hlt; simp at hlt
      have hpa := P1.out hne
      have hbb := HQ.out hne
      have hx := R1.out k hlt
      have hx1 : wr.cell? ⟨b1, o1 + k * 2, none⟩ = some (strV l[k].1) := by
        rw [Below.cell HA.out.to (p := ⟨b1, o1 + k * 2, none⟩) hbb]
        exact hx.1
      have hx2 : wr.cell? ⟨b1, o1 + k * 2 + 1, none⟩ = some (strV l[k].2) := by
        rw [Below.cell HA.out.to (p := ⟨b1, o1 + k * 2 + 1, none⟩) hbb]
        exact hx.2
      have hsn : sumL (l.take (k + 1)) = s + (l[k].1.length + l[k].2.length + 1) := by
        rw [List.take_succ_eq_append_getElem hlt, sumL_append, HX.out]
        simp [sumL]
      have hle := sumL_take l (k + 1)
      rw [hsn] at hle
      have hmem : l[k].1.length + l[k].2.length ≤ 281474976710656 := HS.out _ (List.getElem_mem hlt)
      have HSN := Lib.hid hsn
      have HLE := Lib.hid hle
      generalize l[k] = f at hx1 hx2 HSN hmem HLE
      obtain ⟨f1, f2⟩ := f
      unfold strV at hx1 hx2
      simp only at hx1 hx2 hmem HLE HSN
      have z1 : (⟨f1.toArray⟩ : ByteArray).size = f1.length := by show f1.toArray.size = _; simp
      have z2 : (⟨f2.toArray⟩ : ByteArray).size = f2.length := by show f2.toArray.size = _; simp
      obtain ⟨A, hA⟩ : ∃ A : ByteArray, (⟨f1.toArray⟩ : ByteArray) = A := ⟨_, rfl⟩
      obtain ⟨B, hB⟩ : ∃ B : ByteArray, (⟨f2.toArray⟩ : ByteArray) = B := ⟨_, rfl⟩
      rw [hA] at hx1 z1
      rw [hB] at hx2 z2
      rw [← z1, ← z2] at hmem HLE HSN
      subst hpa
      have hkl : (k : Int) < (l.length : Int) := by omega
      have g1 : IntKind.i64.wrap ((s : Int) + (A.size : Int)) = (s : Int) + (A.size : Int) := IntWalk.i64_in _ (by omega)
      have g2 : IntKind.i64.wrap ((s : Int) + (A.size : Int) + (B.size : Int)) = (s : Int) + (A.size : Int) + (B.size : Int) := IntWalk.i64_in _ (by omega)
      have g3 : IntKind.i64.wrap ((s : Int) + (A.size : Int) + (B.size : Int) + 1) = (s : Int) + (A.size : Int) + (B.size : Int) + 1 := IntWalk.i64_in _ (by omega)
      have HBB := Lib.hid hbb
      clear hx hsn hne hle z1 z2 hA hB hbb
      by_cases hbig : s + A.size + B.size + 1 > 2000
      · have i1 : (s : Int) + (A.size : Int) + (B.size : Int) + 1 > 2000 := by omega
        have HF : Hid (decide (sumL l ≤ 2000) = false) := Lib.hid (by have := HLE.out; simp; omega)
        clear hmem hbig hs2
        go_wp2_with fail
        go_quiet (fail)
        go_wp2_with fail
        go_ret
        exact ⟨ret_bool HF.out.symm, HA.out.drewN _⟩
      · have i1 : ¬ ((s : Int) + (A.size : Int) + (B.size : Int) + 1 > 2000) := by omega
        have HS3 : Hid (s + A.size + B.size + 1 ≤ 2000) := Lib.hid (by omega)
        clear hmem hbig hs2
        go_wp2_with fail
        go_quiet (fail)
        go_wp2_with fail
        go_roundw
        case rel => exact ⟨k + 1, s + A.size + B.size + 1, by omega, by go_num, by push_cast; rfl, HS3.out, Lib.hid (by rw [HSN.out]; omega), Lib.hid (HA.out.drewN _)⟩
        case measure => simp [intOf] <;> omega
    · have hk2 : k = l.length := by omega
      subst hk2
      have HF : Hid (decide (sumL l ≤ 2000) = true) := Lib.hid (by rw [← List.take_of_length_le (Nat.le_refl l.length), HX.out]; simpa using hs2)
      go_wp2_with fail
      go_ret
      exact ⟨ret_bool HF.out.symm, HA.out⟩

end Go.Proofs.Ytdcdckjdloddiaa
