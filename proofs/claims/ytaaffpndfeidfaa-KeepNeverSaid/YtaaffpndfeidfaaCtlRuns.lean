/-
  The walks of chapter 16's none and of.
-/
import Derived.Test.YtaaffpndfeidfaaCtlOf
import Derived.Test.YtaaffpndfeidfaaRbS
import Derived.Test.YtaaffpndfeidfaaFlP
namespace Go.Proofs.Ytaaffpndfeidfaa
open Go.RowKit

theorem none_any (w : World) : Calls Try.prog 23 #[] w fun e w' => e = .returned (ctlV ctl0) ∧ Aft w w' := by
  have hset : (w.alloc (.cells (ctlC ctl0).toArray 30)).heap[w.heap.size]? = some (.cells (ctlC ctl0).toArray 30 (0, 0)) := heap_alloc_new w _
  have hsz : (Try.prog.info? 30).map (·.size) = some (ctlC ctl0).toArray.size := sizeCtl
  have HS := Lib.hid hset
  have HZ := Lib.hid hsz
  clear hset hsz
  go_enter Try.func23, Try.ntmps23
  go_wp2_with fail
  refine bodyPost_ret (results_cell_row rfl _ _ w.heap.size 30 (ctlC ctl0).toArray (0, 0) _ rfl HS.out Try.underlying30 rfl HZ.out) rfl ?_
  exact ⟨rfl, (Aft.refl w).alloc _⟩

def ccF (xs : List (List UInt8)) : List FieldL := xs.map fun x => (nCC, x)
theorem valsF_cc (xs : List (List UInt8)) : valsF nCC (ccF xs) = xs := by
  unfold valsF ccF
  induction xs with
  | nil => rfl
  | cons x xs ih =>
    rw [List.map_cons, List.filter_cons, if_pos (by simp), List.map_cons]
    rw [ih]
set_option maxHeartbeats 4000000 in
theorem of_any16 (v : Value) (xs : List (List UInt8)) (w : World) (hr : RbS w v xs) (hlen : xs.length ≤ 1000) (hj : (Lib.join xs [44, 32]).length ≤ 100000000) :
    Calls Try.prog 24 #[v] w fun e w' => e = .returned (ctlV (ctlF (ccF xs))) ∧ Aft w w' := by
  obtain ⟨a1, c1, b1, o1, rfl, m2, p1, q1, r1⟩ := hr.open
  unfold maxLen at m2
  have P1 := Lib.hid p1
  have Q1 := Lib.hid q1
  have R1 := Lib.hid r1
  have HO := Lib.hid (fun v w hr => of_ctl v (ccF xs) w hr (by simp [ccF]; omega) (by rw [valsF_cc]; exact hj))
  have hz : CB (w.alloc (.cells (ctlC ctlZ).toArray 30)) w.heap.size ctlZ := heap_alloc_new w _
  have hA0 : Aft w (w.alloc (.cells (ctlC ctlZ).toArray 30)) := (Aft.refl w).alloc _
  have hs0 : (w.alloc (.cells (ctlC ctlZ).toArray 30)).heap.size = w.heap.size + 1 := World.size_alloc _ _
  obtain ⟨B0, hb⟩ : ∃ B0, w.heap.size = B0 := ⟨_, rfl⟩
  rw [hb] at hz hs0
  have HZ := Lib.hid hz
  have HA0 := Lib.hid hA0
  have HS0 := Lib.hid hs0
  have HB := Lib.hid hb
  clear hr p1 q1 r1 hj hz hA0 hs0
  go_enter Try.func24, Try.ntmps24
  go_wp2_with fail
  clear hb
  have hW0 : ∃ W0 : World, w.alloc (.cells (ctlC ctlZ).toArray 30) = W0 := ⟨_, rfl⟩
  obtain ⟨W0, hW0⟩ := hW0
  rw [hW0] at HZ HA0 HS0
  rw [show w.alloc (.cells #[.bool false, .bool false, .bool false, .bool false, .bool false, .bool false, .int .i64 0, .int .i64 0, .int .i64 0, .int .i64 0] 30) = W0 from hW0]
  clear hW0
  go_loopw [3, 4] (fun vv vi wr => ∃ k : Nat, k ≤ xs.length ∧ vi = .int .i64 (k : Int) ∧ Hid (OwnF wr (B0 + 1) vv (ccF (xs.take k))) ∧ Hid (Aft W0 wr)) (fun _ vi _ => xs.length - (intOf vi).toNat)
  case atStart => exact ⟨0, by omega, by go_num, Lib.hid (OwnF.nil _ _), Lib.hid (Aft.refl _)⟩
  case round =>
    obtain ⟨k, hk, rfl, HF, HA⟩ := hrel
    by_cases hlt : k < xs.length
    · have hne : xs ≠ [] := by intro e; rw [e] at hlt; simp at hlt
      have hpa := P1.out hne
      have hbb := Q1.out hne
      have hx := R1.out k hlt
      have hx1 : wr.cell? ⟨b1, o1 + k, none⟩ = some (strV xs[k]) := by
        rw [Below.cell (HA0.out.trans HA.out).to (p := ⟨b1, o1 + k, none⟩) hbb]
        exact hx
      have htk : ccF (xs.take (k + 1)) = ccF (xs.take k) ++ [(nCC, xs[k])] := by
        rw [List.take_succ_eq_append_getElem hlt]
        unfold ccF
        rw [List.map_append]
        rfl
      have HTK := Lib.hid htk
      generalize xs[k] = x at hx1 HTK
      unfold strV at hx1
      subst hpa
      have hkl : (k : Int) < (xs.length : Int) := by omega
      have HZ3 : Hid (B0 + 1 ≤ wr.heap.size) := Lib.hid (by rw [← HS0.out]; exact HA.out.size)
      have HO3 := Lib.hid (HF.out.aft ((Aft.refl wr).alloc (.cells #[.string ⟨nCC.toArray⟩, .string ⟨x.toArray⟩] 27)))
      have HZ4 := Lib.hid (le_alloc HZ3.out (.cells #[.string ⟨nCC.toArray⟩, .string ⟨x.toArray⟩] 27))
      have HB3 : Hid (Below (B0 + 1) W0 (wr.alloc (.cells #[.string ⟨nCC.toArray⟩, .string ⟨x.toArray⟩] 27))) := Lib.hid (by rw [← HS0.out]; exact HA.out.alloc _)
      have HN := Lib.hid (new2c wr (.string ⟨nCC.toArray⟩) (.string ⟨x.toArray⟩) 27)
      have HL : Hid ((ccF (xs.take k)).length + 1 ≤ 1000000000000) := Lib.hid (by simp [ccF]; omega)
      clear hx hne htk
      go_wp2_with (at_builtin; refine wpList_pushF rfl (.tmp 11) (.tmp 17) rfl (B0 + 1) _ _ rfl HO3.out wr.heap.size 1 (nCC, x) rfl HN.out.1 HN.out.2 HL.out HZ4.out ?_; intro v6 w6 o6 g6)
      go_roundw
      case rel => exact ⟨k + 1, by omega, by go_num, Lib.hid (by rw [HTK.out]; exact o6), Lib.hid (by have := pushF_below HB3.out HO3.out g6 (Nat.le_refl _) HZ4.out; rw [← HS0.out] at this; exact this)⟩
      case measure => simp [intOf]; omega
    · have hk2 : k = xs.length := by omega
      subst hk2
      have HT : Hid (RbF wr u3 (ccF xs)) := Lib.hid (by have := HF.out.rb; rw [List.take_of_length_le (Nat.le_refl _)] at this; exact this)
      have HZW := Lib.hid (HZ.out.aft HA.out)
      have HAW := Lib.hid (HA0.out.trans HA.out)
      go_wp2_with fail
      refine (HO.out _ _ HT.out).mono ?_
      rintro e w2 ⟨rfl, a2⟩
      obtain ⟨R, hRR⟩ : ∃ R, R = (ctlC (ctlF (ccF xs))).toArray := ⟨_, rfl⟩
      have hsz : (Try.prog.info? 30).map (·.size) = some R.size := by rw [sizeCtl, hRR]; rfl
      have hone : R.all (·.oneCell') = true := by rw [hRR]; simp [ctlC, Value.oneCell']
      have hold : (ctlC ctlZ).toArray.size = R.size := by rw [hRR]; rfl
      have HV : ctlV (ctlF (ccF xs)) = .agg R := by rw [hRR]; rfl
      have HRR := Lib.hid hRR
      have HZR : Hid (w2.heap[B0]? = some (.cells (ctlC ctlZ).toArray 30 (0, 0))) := Lib.hid (HZW.out.aft a2)
      have HAZ := Lib.hid (HAW.out.trans a2)
      rw [HV]
      have HVV := Lib.hid HV
      clear hRR a2 HV
      go_wp2_with (first | (refine wpList_store_rowTo rfl 30 (.tmp 2) (.tmp 20) rfl rfl B0 R rfl rfl _ _ HZR.out hsz hold hone ?_))
      have hset : (w2.setRow B0 R).heap[B0]? = some (.cells R 30 (0, 0)) := setRow_heap w2 B0 (ctlC ctlZ).toArray R 30 (0, 0) HZR.out
      refine bodyPost_ret (results_cell_row rfl _ _ B0 30 R (0, 0) _ rfl hset Try.underlying30 rfl hsz) rfl ?_
      refine ⟨?_, below_setRow HAZ.out (by rw [HB.out]; exact Nat.le_refl _) R⟩
      rw [HVV.out]

end Go.Proofs.Ytaaffpndfeidfaa
