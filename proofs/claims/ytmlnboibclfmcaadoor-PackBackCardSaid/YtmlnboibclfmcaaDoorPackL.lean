/-
  PackBound; the law's light.
-/
import Derived.Test.YtmlnboibclfmcaaDoorPackRuns
namespace Go.Proofs.YtmlnboibclfmcaaDoor
open Go.RowKit
set_option linter.unusedVariables false

/-- No row is longer than what a string may be in the form's reach. -/
def RowsLim (l : List RowL) : Prop := ∀ r ∈ l, r.f.1.length + r.f.2.length ≤ 281474976710656

set_option maxHeartbeats 4000000 in
set_option maxRecDepth 100000 in
theorem light8_any (v : Value) (l : List RowL) (w : World) (hr : RbW w v l) (hs : RowsLim l) :
    Calls Tryd.prog 42 #[v] w fun e w' => e = .returned (.bool (decide (sumR l ≤ 3000))) ∧ Aft w w' := by
  obtain ⟨va, vc, vb, voff, rfl, hvc, hvm, hcell⟩ := hr.open
  unfold maxLen at hvm
  have HC := Lib.hid hcell
  have HS := Lib.hid hs
  clear hr hcell hs
  go_enter Tryd.func42, Tryd.ntmps42
  go_wp2_with fail
  go_loopw [3, 4] (fun vs vi wr => ∃ (k : Nat) (s : Nat), k ≤ l.length ∧ vi = .int .i64 (k : Int) ∧ vs = .int .i64 (s : Int) ∧ s ≤ 3000 ∧ Hid (sumR (l.take k) = s) ∧ Hid (Aft w wr)) (fun _ vi _ => l.length - (intOf vi).toNat)
  case atStart => exact ⟨0, 0, by omega, by go_num, by go_num, by omega, Lib.hid rfl, Lib.hid (Aft.refl _)⟩
  case round =>
    obtain ⟨k, s, hk, rfl, rfl, hs2, HX, HA⟩ := hrel
    by_cases hlt : k < l.length
    · obtain ⟨rfl, hbb, y0, y1, -⟩ := HC.out k hlt
      have x0 : wr.cell? ⟨vb, voff + k * 3, none⟩ = some (strV l[k].f.1) := by
        rw [Below.cell HA.out.to (p := ⟨vb, voff + k * 3, none⟩) hbb]; exact y0
      have x1 : wr.cell? ⟨vb, voff + k * 3 + 1, none⟩ = some (strV l[k].f.2) := by
        rw [Below.cell HA.out.to (p := ⟨vb, voff + k * 3 + 1, none⟩) hbb]; exact y1
      have hsn : sumR (l.take (k + 1)) = s + (l[k].f.1.length + l[k].f.2.length + 32) := by
        rw [List.take_succ_eq_append_getElem hlt, sumR_append, HX.out]
        simp [sumR]
      have hle := sumR_take l (k + 1)
      rw [hsn] at hle
      have hmem : l[k].f.1.length + l[k].f.2.length ≤ 281474976710656 := HS.out _ (List.getElem_mem hlt)
      have HSN := Lib.hid hsn
      have HLE := Lib.hid hle
      clear y0 y1 hsn hle
      generalize l[k] = r at *
      obtain ⟨⟨n, x⟩, how⟩ := r
      unfold strV at x0 x1
      simp only at x0 x1 hmem HLE HSN
      have z1 : (⟨n.toArray⟩ : ByteArray).size = n.length := by show n.toArray.size = _; simp
      have z2 : (⟨x.toArray⟩ : ByteArray).size = x.length := by show x.toArray.size = _; simp
      obtain ⟨A, hA⟩ : ∃ A : ByteArray, (⟨n.toArray⟩ : ByteArray) = A := ⟨_, rfl⟩
      obtain ⟨C, hC⟩ : ∃ C : ByteArray, (⟨x.toArray⟩ : ByteArray) = C := ⟨_, rfl⟩
      rw [hA] at x0 z1
      rw [hC] at x1 z2
      obtain ⟨a, ha⟩ : ∃ a, A.size = a := ⟨_, rfl⟩
      obtain ⟨c, hc⟩ : ∃ c, C.size = c := ⟨_, rfl⟩
      have i1 : (k : Int) < (l.length : Int) := by omega
      have g1 : IntKind.i64.wrap ((s : Int) + (A.size : Int)) = (s : Int) + (A.size : Int) := IntWalk.i64_in _ (by omega)
      have g2 : IntKind.i64.wrap ((s : Int) + (A.size : Int) + (C.size : Int)) = (s : Int) + (A.size : Int) + (C.size : Int) := IntWalk.i64_in _ (by omega)
      have g3 : IntKind.i64.wrap ((s : Int) + (A.size : Int) + (C.size : Int) + 32) = (s : Int) + (A.size : Int) + (C.size : Int) + 32 := IntWalk.i64_in _ (by omega)
      have HZ := Lib.hid (And.intro z1 z2)
      clear hA hC ha hc z1 z2
      go_wp2_with fail
      go_quiet (fail)
      by_cases hbig : (s : Int) + (A.size : Int) + (C.size : Int) + 32 > 3000
      · have HD : Hid (decide (sumR l ≤ 3000) = false) := Lib.hid (decide_eq_false (by have h1 := HZ.out; have h2 := HLE.out; omega))
        go_wp2_with fail
        go_ret
        rw [HD.out]
        exact ⟨rfl, HA.out.drewN _⟩
      · clear g1 g2 g3
        go_wp2_with fail
        go_roundw
        case rel => exact ⟨k + 1, s + (n.length + x.length + 32), by omega, by go_num, by have h1 := HZ.out; rw [h1.1, h1.2]; congr 1; omega, by have h1 := HZ.out; omega, HSN, Lib.hid (HA.out.drewN _)⟩
        case measure => simp [intOf]; omega
    · have hkk : l.take k = l := List.take_of_length_le (by omega)
      rw [hkk] at HX
      have i1 : ¬ (k : Int) < (l.length : Int) := by omega
      clear hkk
      go_wp2_with fail
      go_ret
      rw [decide_eq_true (by rw [HX.out]; exact hs2)]
      exact ⟨rfl, HA.out⟩

end Go.Proofs.YtmlnboibclfmcaaDoor
