/-
  FieldsTells.
-/
import Derived.Test.YtahjoiphajkdcaaDoorFldRuns
import Derived.Test.YtahjoiphajkdcaaDoorFldRef
import Derived.Test.YtahjoiphajkdcaaDoorFldBig
namespace Go.Proofs.YtahjoiphajkdcaaDoor
open Go.ChangeShapes Go.WideShapes Go.ChangeAt Go.RowKit
set_option linter.unusedVariables false

theorem full_rbF {w : World} {g : Nat} {l : List FieldL} (h : FB w g (l ++ List.replicate 80 markF)) (hlen : l.length ≤ 4398046511104) : RbF w (.slice (some ⟨g, 0, none⟩) (l.length + 80) (l.length + 80)) (l ++ List.replicate 80 markF) ∧ RbF w (.slice (some ⟨g, 0, none⟩) l.length (l.length + 80)) l := by
  have hll : (l ++ List.replicate 80 markF).length = l.length + 80 := by simp
  have hm : (l ++ List.replicate 80 markF).length ≤ maxLen := by rw [hll]; unfold maxLen; omega
  have h1 := h.rb hm (l.length + 80) (by omega)
  have h2 := h.rb hm l.length (by omega)
  rw [hll] at h1 h2
  rw [List.take_of_length_le (by omega)] at h1
  rw [List.take_left'] at h2
  · exact ⟨h1, h2⟩
  · rfl

set_option maxHeartbeats 4000000 in
theorem tells_any (i : Int) (i0 : -9223372036854775808 ≤ i) (i1 : i ≤ 9223372036854775807) (v : Value) (l : List FieldL) (w : World) (hm : MaxOk w) (hr : RbF w v l) (hl : FieldsLim l) (hl2 : l.length ≤ 4398046511104) :
    Calls Tryd.prog 3 #[.int .i64 i, v] w fun e w' => e = .returned (.bool true) ∧ Aft w w' := by
  have HS := Lib.hid (static_any i i0 i1)
  have HT := Lib.hid (rstatic_any i i0 i1)
  obtain ⟨X, hX⟩ : ∃ X, statF i = X := ⟨_, rfl⟩
  rw [hX] at HS HT
  obtain ⟨x1, x2⟩ := X
  unfold fieldV at HS HT
  simp only at HS HT
  obtain ⟨ok, hok⟩ : ∃ ok, statB i = ok := ⟨_, rfl⟩
  rw [hok] at HS HT
  clear hX hok
  have HRO := Lib.hid (fun w h => roomyF_big v l w h hl2)
  have HIN := Lib.hid (fun v1 w h1 h2 => intactF_big v1 v l w h1 h2 hl2)
  have HSU := Lib.hid (fun v1 w h => sumW_any v1 l w h hl)
  have HFR := Lib.hid (fun (w : World) g h => full_rbF (w := w) (g := g) h hl2)
  have HLE := Lib.hid hl
  obtain ⟨a1, c1, b1, o1, rfl, m1, m2, p1, q1, r1⟩ := hr.open
  have P1 := Lib.hid p1
  have Q1 := Lib.hid q1
  have R1 := Lib.hid r1
  have HR := Lib.hid hr
  have HM := Lib.hid hm
  have hl3 : l.length ≤ l.length + 80 := by omega
  have hl4 : (l.length : Int) ≤ ((l.length + 80 : Nat) : Int) := by omega
  unfold maxLen at m2
  clear hl hr p1 q1 r1 hm i0 i1
  go_enter Tryd.func3, Tryd.ntmps3
  go_wp2_with fail
  refine (HS.out _ HM.out).mono ?_
  rintro e w1 ⟨rfl, a1'⟩
  have A1 := Lib.hid (a1'.alloc (.cells #[.string ⟨x1.toArray⟩, .string ⟨x2.toArray⟩] 24))
  have N1 := Lib.hid (new2 w1 (.string ⟨x1.toArray⟩) (.string ⟨x2.toArray⟩) 24)
  have Z1 : Hid (w1.heap.size < (w1.alloc (.cells #[.string ⟨x1.toArray⟩, .string ⟨x2.toArray⟩] 24)).heap.size) := Lib.hid (by rw [World.size_alloc]; omega)
  clear a1'
  go_wp2_with fail
  refine (HT.out _).mono ?_
  rintro e w2 ⟨rfl, a2⟩
  have N2 := Lib.hid (new2 w2 (.string ⟨x1.toArray⟩) (.string ⟨x2.toArray⟩) 24)
  have A2 := Lib.hid (a2.alloc (.cells #[.string ⟨x1.toArray⟩, .string ⟨x2.toArray⟩] 24))
  have Z2 : Hid (w2.heap.size < (w2.alloc (.cells #[.string ⟨x1.toArray⟩, .string ⟨x2.toArray⟩] 24)).heap.size) := Lib.hid (by rw [World.size_alloc]; omega)
  clear a2
  obtain ⟨G1, hG1⟩ : ∃ G1, w1.heap.size = G1 := ⟨_, rfl⟩
  obtain ⟨G2, hG2⟩ : ∃ G2, w2.heap.size = G2 := ⟨_, rfl⟩
  have M2 : Hid (((w2.alloc (.cells #[.string ⟨x1.toArray⟩, .string ⟨x2.toArray⟩] 24)).cell? ⟨G1, 0, none⟩ = some (.string ⟨x1.toArray⟩) ∧ (w2.alloc (.cells #[.string ⟨x1.toArray⟩, .string ⟨x2.toArray⟩] 24)).cell? ⟨G1, 1, none⟩ = some (.string ⟨x2.toArray⟩)) ∧ ((w2.alloc (.cells #[.string ⟨x1.toArray⟩, .string ⟨x2.toArray⟩] 24)).cell? ⟨G2, 0, none⟩ = some (.string ⟨x1.toArray⟩) ∧ (w2.alloc (.cells #[.string ⟨x1.toArray⟩, .string ⟨x2.toArray⟩] 24)).cell? ⟨G2, 1, none⟩ = some (.string ⟨x2.toArray⟩)) ∧ G1 < (w2.alloc (.cells #[.string ⟨x1.toArray⟩, .string ⟨x2.toArray⟩] 24)).heap.size ∧ G2 < (w2.alloc (.cells #[.string ⟨x1.toArray⟩, .string ⟨x2.toArray⟩] 24)).heap.size) := Lib.hid (by
    subst hG1 hG2
    refine ⟨⟨?_, ?_⟩, N2.out, Nat.lt_of_lt_of_le Z1.out A2.out.size, Z2.out⟩
    · rw [Below.cell A2.out.to (p := ⟨w1.heap.size, 0, none⟩) Z1.out]; exact N1.out.1
    · rw [Below.cell A2.out.to (p := ⟨w1.heap.size, 1, none⟩) Z1.out]; exact N1.out.2)
  have A3 := Lib.hid (A1.out.trans A2.out)
  clear N1 N2 Z1 Z2 A1 A2 HS HT
  go_wp2_with fail
  clear hG1 hG2
  generalize w2.alloc (.cells #[.string ⟨x1.toArray⟩, .string ⟨x2.toArray⟩] 24) = W2 at M2 A3 ⊢
  refine (HRO.out _ (HR.out.aft A3.out)).mono ?_
  rintro e w4 ⟨g, rfl, hfb, a4⟩
  have A4 := Lib.hid (A3.out.trans a4)
  have hKL : ∀ w', Aft w4 w' → (w'.cell? ⟨G1, 0, none⟩ = some (.string ⟨x1.toArray⟩) ∧ w'.cell? ⟨G1, 1, none⟩ = some (.string ⟨x2.toArray⟩)) ∧ (w'.cell? ⟨G2, 0, none⟩ = some (.string ⟨x1.toArray⟩) ∧ w'.cell? ⟨G2, 1, none⟩ = some (.string ⟨x2.toArray⟩)) := by
    intro w' hw'
    have ha := a4.trans hw'
    refine ⟨⟨?_, ?_⟩, ⟨?_, ?_⟩⟩
    · rw [Below.cell ha.to (p := ⟨G1, 0, none⟩) M2.out.2.2.1]; exact M2.out.1.1
    · rw [Below.cell ha.to (p := ⟨G1, 1, none⟩) M2.out.2.2.1]; exact M2.out.1.2
    · rw [Below.cell ha.to (p := ⟨G2, 0, none⟩) M2.out.2.2.2]; exact M2.out.2.1.1
    · rw [Below.cell ha.to (p := ⟨G2, 1, none⟩) M2.out.2.2.2]; exact M2.out.2.1.2
  have HKL := Lib.hid hKL
  clear a4 hKL M2 A3
  go_wp2_with fail
  go_loopw [10, 11] (fun vs vi wr => ∃ (k : Nat) (s : Int), k ≤ l.length ∧ vi = .int .i64 (k : Int) ∧ vs = .int .i64 s ∧ Hid (IntKind.i64.wrap (sumF (l.take k) : Int) = s) ∧ Hid (Aft w4 wr)) (fun _ vi _ => l.length - (intOf vi).toNat)
  case atStart => exact ⟨0, 0, by omega, by go_num, by go_num, Lib.hid (by simp [sumF]; decide), Lib.hid (Aft.refl _)⟩
  case round =>
    obtain ⟨k, s, hk, rfl, rfl, HX, HA⟩ := hrel
    by_cases hlt : k < l.length
    · have hne : l ≠ [] := by intro e; rw [e] at hlt; simp at hlt
      have hpa := P1.out hne
      have hbb := Q1.out hne
      have hx := R1.out k hlt
      have hsn : sumF (l.take (k + 1)) = sumF (l.take k) + fsize l[k] := by
        rw [List.take_succ_eq_append_getElem hlt, sumF_append]
        simp [sumF]
      have hle : fsize l[k] ≤ 1000000000000000000 := by
        have := HLE.out _ (List.getElem_mem hlt)
        unfold fsize
        omega
      have HSN := Lib.hid hsn
      generalize l[k] = f at hx HSN hle
      have HB := Lib.hid (bytes_big f (by omega))
      have HRB := Lib.hid (rbytes_big f (by omega))
      have HLS := Lib.hid hle
      obtain ⟨n, hn⟩ : ∃ n, fsize f = n := ⟨_, rfl⟩
      rw [hn] at HB HRB HLS HSN
      unfold fieldV at HB HRB
      obtain ⟨f1, f2⟩ := f
      unfold strV at hx
      simp only at hx HB HRB
      generalize (⟨f1.toArray⟩ : ByteArray) = S1 at hx HB HRB
      generalize (⟨f2.toArray⟩ : ByteArray) = S2 at hx HB HRB
      have hCE : ∀ w', Aft w4 w' → w'.cell? ⟨b1, o1 + k * 2, none⟩ = some (.string S1) ∧ w'.cell? ⟨b1, o1 + k * 2 + 1, none⟩ = some (.string S2) := by
        intro w' hw'
        have ha := A4.out.trans hw'
        refine ⟨?_, ?_⟩
        · rw [Below.cell ha.to (p := ⟨b1, o1 + k * 2, none⟩) hbb]; exact hx.1
        · rw [Below.cell ha.to (p := ⟨b1, o1 + k * 2 + 1, none⟩) hbb]; exact hx.2
      have HCE := Lib.hid hCE
      subst hpa
      have hkl : (k : Int) < (l.length : Int) := by omega
      clear hx hsn hne hle hn hCE hbb
      obtain ⟨y1, y2⟩ := HCE.out _ HA.out
      go_wp2_with fail
      refine (HRB.out _).mono ?_
      rintro e w5 ⟨rfl, a5⟩
      have HA5 := Lib.hid (HA.out.trans a5)
      clear a5 y1 y2
      obtain ⟨s2, hs2⟩ : ∃ s2, IntKind.i64.wrap (sumF (l.take (k + 1)) : Int) = s2 := ⟨_, rfl⟩
      have g1 : IntKind.i64.wrap (s + (n : Int)) = s2 := by rw [← hs2, HSN.out, ← HX.out]; exact wrap_add _ _
      have HS2 := Lib.hid hs2
      clear hs2
      obtain ⟨y1, y2⟩ := HCE.out _ HA5.out
      obtain ⟨z1, z2⟩ := HCE.out _ HA5.out.drew
      go_wp2_with fail
      go_region_law (first
        | (go_simp; go_at_call 8; refine (HB.out _).mono ?_; rintro e w6 ⟨rfl, a6⟩; have A6 : Aft w4 w6 := Aft.trans (by first | assumption | exact HA5.out.drew | exact HA5.out) a6; obtain ⟨y1, y2⟩ := HCE.out _ A6)
        | (go_simp; go_at_call 7; refine (HRB.out _).mono ?_; rintro e w6 ⟨rfl, a6⟩; have A6 : Aft w4 w6 := Aft.trans (by first | assumption | exact HA5.out.drew | exact HA5.out) a6; obtain ⟨y1, y2⟩ := HCE.out _ A6))
      all_goals
        go_wp2_with fail
        go_roundw
        case rel => exact ⟨k + 1, s2, by omega, by go_num, rfl, HS2, Lib.hid (by first | exact A6 | exact A6.drew)⟩
        case measure => simp [intOf] <;> omega
    · have hk2 : k = l.length := by omega
      subst hk2
      have HT : Hid (IntKind.i64.wrap (sumF l : Int) = s) := Lib.hid (by rw [← HX.out, List.take_of_length_le (Nat.le_refl _)])
      obtain ⟨⟨u1, u2⟩, ⟨u3, u4⟩⟩ := HKL.out _ HA.out
      rw [HT.out] at HSU
      obtain ⟨r1, r2⟩ := HFR.out _ _ hfb.out
      have R2 := Lib.hid (r2.aft HA.out)
      have RF := Lib.hid (r1.aft HA.out)
      have HAW := Lib.hid (A4.out.trans HA.out)
      clear r1 r2 HX HT
      go_wp2_with fail
      refine (HSU.out _ _ R2.out).mono ?_
      rintro e w7 ⟨rfl, a7⟩
      have A7 := Lib.hid (HAW.out.trans a7)
      have B7 := Lib.hid a7
      clear a7
      go_wp2_with fail
      refine (HIN.out _ _ (RF.out.aft B7.out) (HR.out.aft A7.out)).mono ?_
      rintro e w8 ⟨rfl, a8⟩
      have A8 := Lib.hid (A7.out.trans a8)
      clear a8
      go_wp2_with fail
      refine (runs_any _ (HM.out.aft A8.out)).mono ?_
      rintro e w9 ⟨rfl, a9⟩
      have A9 := Lib.hid (A8.out.trans a9)
      clear a9
      go_wp2_with fail
      go_ret
      exact ⟨rfl, A9.out⟩

theorem walkFieldsTells (w : World) (hsh : w.ShapedOpen Tryd.prog) {H : Type} {enc : TypeId × Value → H} {base : Nat} {v1 : Value} {d1 : DataW H} {p1 : List MemPlace} (a0 : Int) (w0 : (Lit.int .i64 a0).wf = true)
    (hval1 : Value.okWide Tryd.prog w .any base 22 v1) (k1 : DataW.Trod enc Tryd.prog w 0 (fun _ => true) true 22 v1 d1 p1) (hk : (DataW.weightsEach Tryd.prog [3, 22] [(.lit (.int .i64 a0) : DataW H), d1]).all (· ≤ reachBytes) = true) :
    Calls Tryd.prog 3 #[.int .i64 a0, v1] w fun e w' => e = .returned (.bool true) ∧ Aft w w' := by
  obtain ⟨l, h0, b0, c0⟩ := open_fieldsRL hval1 k1 (wt_at hk (j := 1) rfl rfl)
  have hb := bounds_i64 w0
  exact tells_any a0 hb.1 hb.2 v1 l w (maxOk_of w hsh) h0 b0 c0

end Go.Proofs.YtahjoiphajkdcaaDoor
