/-
  The walks of the reference's Static and Bytes.
-/
import Derived.Test.YtahjoiphajkdcaaDoorFldS
import Derived.Great.BuildSlice
import Derived.Deep.DeepCutAuto
namespace Go.Proofs.YtahjoiphajkdcaaDoor
open Go.RowKit

theorem rbytes_any (f : FieldL) (h : fsize f ≤ 1000000000000) (w : World) :
    Calls Tryd.prog 7 #[fieldV f] w fun e w' => e = .returned (.int .i64 (fsize f : Int)) ∧ Aft w w' := by
  obtain ⟨n, hn⟩ : ∃ n, (⟨f.1.toArray⟩ : ByteArray).size = n := ⟨_, rfl⟩
  obtain ⟨m, hm⟩ : ∃ m, (⟨f.2.toArray⟩ : ByteArray).size = m := ⟨_, rfl⟩
  have hz : fsize f = n + m + 32 := by
    subst hn hm
    show _ = f.1.toArray.size + f.2.toArray.size + 32
    simp [fsize]
  rw [hz] at h ⊢
  unfold fieldV
  generalize (⟨f.1.toArray⟩ : ByteArray) = A at hn ⊢
  generalize (⟨f.2.toArray⟩ : ByteArray) = B at hm ⊢
  have g1 : IntKind.i64.wrap ((n : Int) + (m : Int)) = (n : Int) + (m : Int) := IntWalk.i64_in _ (by omega)
  have g2 : IntKind.i64.wrap ((n : Int) + (m : Int) + 32) = (n : Int) + (m : Int) + 32 := IntWalk.i64_in _ (by omega)
  subst hn hm
  clear hz
  go_enter Tryd.func7, Tryd.ntmps7
  go_wp2_with fail
  go_ret
  exact ⟨ret_int (by push_cast; omega), (Aft.refl w).alloc _⟩

theorem fv_static (w : World) (a b : Value) (t : TypeId) : FB ((w.alloc (.cells #[a, b] t)).alloc (.cells (fv staticT).toArray 24)) (w.heap.size + 1) staticT := by
  have := heap_alloc_new (w.alloc (.cells #[a, b] t)) (.cells (fv staticT).toArray 24)
  rw [World.size_alloc] at this
  exact this
set_option maxHeartbeats 4000000 in
set_option maxRecDepth 100000 in
theorem rstatic_any (i : Int) (h0 : -9223372036854775808 ≤ i) (h1 : i ≤ 9223372036854775807) (w : World) :
    Calls Tryd.prog 5 #[.int .i64 i] w fun e w' => e = .returned (.tuple #[fieldV (statF i), .bool (statB i)]) ∧ Aft w w' := by
  obtain ⟨i0, hi, hz0, hz1, hz2⟩ := info_parts infoF
  have hA := (Aft.refl (w.alloc (.cells #[.string ⟨#[]⟩, .string ⟨#[]⟩] 24))).alloc (.cells (fv staticT).toArray 24)
  have HB : Hid (Below w.heap.size w ((w.alloc (.cells #[.string ⟨#[]⟩, .string ⟨#[]⟩] 24)).alloc (.cells (fv staticT).toArray 24))) := Lib.hid (((Below.refl _ _).alloc (Nat.le_refl _) _).alloc (by simp) _)
  have HF := Lib.hid (fv_static w (.string ⟨#[]⟩) (.string ⟨#[]⟩) 24)
  obtain ⟨hcl, hfr⟩ := bcellF hA.to
  have HCL := Lib.hid hcl
  have HFR := Lib.hid hfr
  have HI := Lib.hid (And.intro hi (And.intro hz0 hz1))
  clear hA hcl hfr hi hz0 hz1 hz2
  go_enter Tryd.func5, Tryd.ntmps5
  go_upto_region 2 with (first | (refine wpList_buildSlice rfl 22 24 61 _ rfl (fv staticT).toArray i0 _ Tryd.underlying22 HI.out.1 HI.out.2.1 (by rw [HI.out.2.2]; decide) (by rw [HI.out.2.2]; decide) (by rw [HI.out.2.2]; kernel_rfl) ?_))
  have hcl := HCL.out
  have hfr := HFR.out
  have hc := fun j (hj : j < staticT.length) => HF.out.cell hj
  have HC := Lib.hid hc
  clear hc HCL HFR HF HI
  generalize w.heap.size + 1 = g at HC ⊢
  generalize (w.alloc (.cells #[.string ⟨#[]⟩, .string ⟨#[]⟩] 24)).alloc (.cells (fv staticT).toArray 24) = w1 at HC HB hcl hfr ⊢
  by_cases c1 : i < 1
  · obtain ⟨e1, e2⟩ := statF_out (i := i) (by omega)
    have E1 := Lib.hid e1
    have E2 := Lib.hid e2
    clear e1 e2
    go_wp2_with fail
    refine bodyPost_ret (v := .tuple #[.agg #[.string ⟨#[]⟩, .string ⟨#[]⟩], .bool false]) (by simp [results, Tryd.results5, go_sem, hcl]) rfl ?_
    rw [E1.out, E2.out]
    exact ⟨rfl, (HB.out.setCell (p := ⟨w.heap.size, 0, none⟩) (Nat.le_refl _) _).setCell (p := ⟨w.heap.size, 1, none⟩) (Nat.le_refl _) _⟩
  · by_cases c2 : i > 61
    · obtain ⟨e1, e2⟩ := statF_out (i := i) (by omega)
      have E1 := Lib.hid e1
      have E2 := Lib.hid e2
      clear e1 e2
      go_wp2_with fail
      refine bodyPost_ret (v := .tuple #[.agg #[.string ⟨#[]⟩, .string ⟨#[]⟩], .bool false]) (by simp [results, Tryd.results5, go_sem, hcl]) rfl ?_
      rw [E1.out, E2.out]
      exact ⟨rfl, (HB.out.setCell (p := ⟨w.heap.size, 0, none⟩) (Nat.le_refl _) _).setCell (p := ⟨w.heap.size, 1, none⟩) (Nat.le_refl _) _⟩
    · obtain ⟨j, hj⟩ : ∃ j : Nat, i = (j : Int) + 1 := ⟨(i - 1).toNat, by omega⟩
      obtain ⟨⟨hl, e1⟩, e2⟩ := statF_in j (by omega)
      rw [← hj] at e1 e2
      have hx := HC.out j hl
      generalize staticT[j] = f at hx e1
      have E1 := Lib.hid e1
      have E2 := Lib.hid e2
      obtain ⟨x1, x2⟩ := hx
      unfold strV at x1 x2
      have g1 : IntKind.i64.wrap (i - 1) = (j : Int) := by rw [show i - 1 = (j : Int) by omega]; exact IntWalk.i64_in _ (by omega)
      have i1 : (j : Int) < 61 := by omega
      clear e1 e2 HC hl hj h0 h1
      go_wp2_with fail
      refine bodyPost_ret (v := .tuple #[fieldV f, .bool true]) (by simp [results, Tryd.results5, go_sem, hcl, fieldV]) rfl ?_
      rw [E1.out, E2.out]
      exact ⟨rfl, (HB.out.setCell (p := ⟨w.heap.size, 0, none⟩) (Nat.le_refl _) _).setCell (p := ⟨w.heap.size, 1, none⟩) (Nat.le_refl _) _⟩

end Go.Proofs.YtahjoiphajkdcaaDoor
