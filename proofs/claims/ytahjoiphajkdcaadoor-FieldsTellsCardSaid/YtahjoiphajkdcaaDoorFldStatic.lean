/-
  The walks of fields.Static, Bytes and Sum.
-/
import Derived.Test.YtahjoiphajkdcaaDoorFldS
import Derived.Laws.Rows
import Derived.Laws.Tables
import Derived.RegionTactic
namespace Go.Proofs.YtahjoiphajkdcaaDoor
open Go.RowKit


set_option maxHeartbeats 2000000 in
theorem sum_any (v : Value) (l : List FieldL) (w : World) (hr : RbF w v l) (hs : sumF l ≤ 1000000000000) :
    Calls Tryd.prog 9 #[v] w fun e w' => e = .returned (.int .i64 (sumF l : Int)) ∧ Aft w w' := by
  obtain ⟨a1, c1, b1, o1, rfl, m1, m2, p1, q1, r1⟩ := hr.open
  unfold maxLen at m2
  have P1 := Lib.hid p1
  have Q1 := Lib.hid q1
  have R1 := Lib.hid r1
  have HS := Lib.hid hs
  clear hr p1 q1 r1 hs
  go_enter Tryd.func9, Tryd.ntmps9
  go_wp2_with fail
  go_loopw [3, 8] (fun vs vi wr => ∃ (k : Nat) (s : Nat), k ≤ l.length ∧ vi = .int .i64 (k : Int) ∧ vs = .int .i64 (s : Int) ∧ Hid (sumF (l.take k) = s) ∧ Hid (Aft w wr)) (fun _ vi _ => l.length - (intOf vi).toNat)
  case atStart => exact ⟨0, 0, by omega, by go_num, by go_num, Lib.hid rfl, Lib.hid (Aft.refl _)⟩
  case round =>
    obtain ⟨k, s, hk, rfl, rfl, HX, HA⟩ := hrel
    by_cases hlt : k < l.length
    · have hne : l ≠ [] := by intro e; rw [e] at hlt; simp at hlt
      have hpa := P1.out hne
      have hbb := Q1.out hne
      have hx := R1.out k hlt
      have hx1 : wr.cell? ⟨b1, o1 + k * 2, none⟩ = some (strV l[k].1) := by
        rw [Below.cell HA.out.to (p := ⟨b1, o1 + k * 2, none⟩) hbb]
        exact hx.1
      have hx2 : wr.cell? ⟨b1, o1 + k * 2 + 1, none⟩ = some (strV l[k].2) := by
        rw [Below.cell HA.out.to (p := ⟨b1, o1 + k * 2 + 1, none⟩) hbb]
        exact hx.2
      have hsn : sumF (l.take (k + 1)) = s + fsize l[k] := by
        rw [List.take_succ_eq_append_getElem hlt, sumF_append, HX.out]
        simp [sumF]
      have hle : s + fsize l[k] ≤ 1000000000000 := by
        rw [← hsn]
        exact Nat.le_trans (sumF_take l (k + 1)) HS.out
      have HSN := Lib.hid hsn
      generalize l[k] = f at hx1 hx2 HSN hle
      have HB := Lib.hid (bytes_any f (by omega))
      have HLE := Lib.hid hle
      unfold strV at hx1 hx2
      subst hpa
      have hkl : (k : Int) < (l.length : Int) := by omega
      clear hx hsn hne hle
      go_wp2_with fail
      refine (HB.out _).mono ?_
      rintro e w2 ⟨rfl, a2⟩
      have g1 : IntKind.i64.wrap ((s : Int) + (fsize f : Int)) = (s : Int) + (fsize f : Int) := IntWalk.i64_in _ (by have := HLE.out; omega)
      have HA2 : Hid (Aft w w2) := Lib.hid ((HA.out.alloc _).trans a2)
      clear a2
      go_wp2_with fail
      go_roundw
      case rel => exact ⟨k + 1, s + fsize f, by omega, by go_num, by push_cast; rfl, HSN, HA2⟩
      case measure => simp [intOf]; omega
    · have hk2 : k = l.length := by omega
      subst hk2
      have HT : Hid (s = sumF l) := Lib.hid (by rw [← HX.out, List.take_of_length_le (Nat.le_refl _)])
      go_wp2_with fail
      go_ret
      exact ⟨ret_int (by rw [HT.out]), HA.out⟩

set_option maxHeartbeats 2000000 in
/-- The field of a number, and whether there is one. -/
theorem static_any (i : Int) (h0 : -9223372036854775808 ≤ i) (h1 : i ≤ 9223372036854775807) (w : World) (hm : MaxOk w) :
    Calls Tryd.prog 4 #[.int .i64 i] w fun e w' => e = .returned (.tuple #[fieldV (statF i), .bool (statB i)]) ∧ Aft w w' := by
  have HM : Hid (MaxOk (w.alloc (.cells #[.string ⟨#[]⟩, .string ⟨#[]⟩] 24))) := Lib.hid (hm.alloc _)
  go_enter Tryd.func4, Tryd.ntmps4
  go_wp2_with fail
  refine (all_fields _ HM.out).mono ?_
  rintro e w1 ⟨v, rfl, ho, b1⟩
  obtain ⟨a, g, k, rfl, m1, _, hp, hc⟩ := ho.form
  obtain ⟨hcl, hfr⟩ := bcellF b1.to
  have hne : staticT ≠ [] := by intro e; have := staticT_len; rw [e] at this; cases this
  obtain ⟨rfl, hg⟩ := hp hne
  have hb : Below w.heap.size w w1 := ((Below.refl _ _).alloc (Nat.le_refl _) _).trans (Below.mono b1.to (by simp))
  have HB := Lib.hid hb
  have HC := Lib.hid hc
  rw [staticT_len] at m1 ⊢
  clear ho hp hc hb b1 hne hm HM
  by_cases c1 : i < 1
  · obtain ⟨e1, e2⟩ := statF_out (i := i) (by omega)
    have E1 := Lib.hid e1
    have E2 := Lib.hid e2
    clear e1 e2
    go_wp2_with fail
    refine bodyPost_ret (v := .tuple #[.agg #[.string ⟨#[]⟩, .string ⟨#[]⟩], .bool false]) (by simp [results, Tryd.results4, go_sem, hcl]) rfl ?_
    rw [E1.out, E2.out]
    exact ⟨rfl, (HB.out.setCell (p := ⟨w.heap.size, 0, none⟩) (Nat.le_refl _) _).setCell (p := ⟨w.heap.size, 1, none⟩) (Nat.le_refl _) _⟩
  · by_cases c2 : i > 61
    · obtain ⟨e1, e2⟩ := statF_out (i := i) (by omega)
      have E1 := Lib.hid e1
      have E2 := Lib.hid e2
      clear e1 e2
      go_wp2_with fail
      refine bodyPost_ret (v := .tuple #[.agg #[.string ⟨#[]⟩, .string ⟨#[]⟩], .bool false]) (by simp [results, Tryd.results4, go_sem, hcl]) rfl ?_
      rw [E1.out, E2.out]
      exact ⟨rfl, (HB.out.setCell (p := ⟨w.heap.size, 0, none⟩) (Nat.le_refl _) _).setCell (p := ⟨w.heap.size, 1, none⟩) (Nat.le_refl _) _⟩
    · obtain ⟨j, hj⟩ : ∃ j : Nat, i = (j : Int) + 1 := ⟨(i - 1).toNat, by omega⟩
      obtain ⟨⟨hl, e1⟩, e2⟩ := statF_in j (by omega)
      rw [← hj] at e1 e2
      have hx := HC.out j hl
      generalize staticT[j] = f at hx e1
      have E1 := Lib.hid e1
      have E2 := Lib.hid e2
      obtain ⟨x1, x2⟩ := hx
      unfold strV at x1 x2
      have g1 : IntKind.i64.wrap (i - 1) = (j : Int) := by rw [show i - 1 = (j : Int) by omega]; exact IntWalk.i64_in _ (by omega)
      have i1 : (j : Int) < 61 := by omega
      clear e1 e2 HC hl hj h0 h1 hg m1
      go_wp2_with fail
      refine bodyPost_ret (v := .tuple #[fieldV f, .bool true]) (by simp [results, Tryd.results4, go_sem, hcl, fieldV]) rfl ?_
      rw [E1.out, E2.out]
      exact ⟨rfl, (HB.out.setCell (p := ⟨w.heap.size, 0, none⟩) (Nat.le_refl _) _).setCell (p := ⟨w.heap.size, 1, none⟩) (Nat.le_refl _) _⟩

end Go.Proofs.YtahjoiphajkdcaaDoor
