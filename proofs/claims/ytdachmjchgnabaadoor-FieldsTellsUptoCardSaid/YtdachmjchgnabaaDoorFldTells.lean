/-
  FieldsTells, where the arguments are not too great.
-/
import Derived.Test.YtdachmjchgnabaaDoorFldRuns
import Derived.Test.YtdachmjchgnabaaDoorFldRef
import Derived.Test.YtdachmjchgnabaaDoorArgF
namespace Go.Proofs.YtdachmjchgnabaaDoor
open Go.ChangeShapes Go.WideShapes Go.ChangeAt Go.RowKit

theorem upto_intF {H : Type} {a : Int} {d1 : DataW H} (h : Rows.uptoSmall H [.lit (.int .i64 a), d1] = true) : Rows.uptoBulk d1 ≤ 1048576 := by
  have h2 : Rows.uptoBulkAll [(.lit (.int .i64 a) : DataW H), d1] ≤ 1048576 := of_decide_eq_true h
  simp only [Rows.uptoBulkAll] at h2
  omega
theorem full_rbF {w : World} {g : Nat} {l : List FieldL} (h : FB w g (l ++ List.replicate 80 markF)) (hlen : l.length ≤ 1000000) : RbF w (.slice (some ⟨g, 0, none⟩) (l.length + 80) (l.length + 80)) (l ++ List.replicate 80 markF) ∧ RbF w (.slice (some ⟨g, 0, none⟩) l.length (l.length + 80)) l := by
  have hll : (l ++ List.replicate 80 markF).length = l.length + 80 := by simp
  have hm : (l ++ List.replicate 80 markF).length ≤ maxLen := by rw [hll]; unfold maxLen; omega
  have h1 := h.rb hm (l.length + 80) (by omega)
  have h2 := h.rb hm l.length (by omega)
  rw [hll] at h1 h2
  rw [List.take_of_length_le (by omega)] at h1
  rw [List.take_left'] at h2
  · exact ⟨h1, h2⟩
  · rfl

set_option maxHeartbeats 4000000 in
theorem tells_any (i : Int) (i0 : -9223372036854775808 ≤ i) (i1 : i ≤ 9223372036854775807) (v : Value) (l : List FieldL) (w : World) (hm : MaxOk w) (hr : RbF w v l) (hl : bulkF l ≤ 1048576) :
    Calls Tryd.prog 4 #[.int .i64 i, v] w fun e w' => e = .returned (.bool true) ∧ Aft w w' := by
  have b0 := bulkF_sum l
  have q0 := bulkF_len l
  have hm1 : l.length ≤ 1000000 ∨ 1000000 < l.length := by omega
  have hl2 : l.length ≤ 1000000 := by
    have : 3 * l.length ≤ bulkF l := by
      clear hl b0 q0 hm1 hr
      induction l with
      | nil => simp
      | cons f l ih =>
        have e : bulkF (f :: l) = f.1.length + f.2.length + 3 + bulkF l := by simp [bulkF]
        rw [e, List.length_cons]
        omega
    omega
  have HS := Lib.hid (static_any i i0 i1)
  have HT := Lib.hid (rstatic_any i i0 i1)
  obtain ⟨X, hX⟩ : ∃ X, statF i = X := ⟨_, rfl⟩
  rw [hX] at HS HT
  obtain ⟨x1, x2⟩ := X
  unfold fieldV at HS HT
  simp only at HS HT
  obtain ⟨ok, hok⟩ : ∃ ok, statB i = ok := ⟨_, rfl⟩
  rw [hok] at HS HT
  clear hX hok hm1
  have HRO := Lib.hid (fun w h => roomyF_any v l w h hl2)
  have HIN := Lib.hid (fun v1 w h1 h2 => intactF_any v1 v l w h1 h2 hl2)
  have HSU := Lib.hid (fun v1 w h => sum_any v1 l w h (by omega))
  have HFR := Lib.hid (fun (w : World) g h => full_rbF (w := w) (g := g) h hl2)
  have HLE : Hid (sumF l ≤ 33554432) := Lib.hid (by omega)
  obtain ⟨a1, c1, b1, o1, rfl, m1, m2, p1, q1, r1⟩ := hr.open
  have P1 := Lib.hid p1
  have Q1 := Lib.hid q1
  have R1 := Lib.hid r1
  have HR := Lib.hid hr
  have HM := Lib.hid hm
  have hl3 : l.length ≤ l.length + 80 := by omega
  have hl4 : (l.length : Int) ≤ ((l.length + 80 : Nat) : Int) := by omega
  unfold maxLen at m2
  clear b0 q0 hl hr p1 q1 r1 hm i0 i1
  go_enter Tryd.func4, Tryd.ntmps4
  go_wp2_with fail
  refine (HS.out _ HM.out).mono ?_
  rintro e w1 ⟨rfl, a1'⟩
  have A1 := Lib.hid (a1'.alloc (.cells #[.string ⟨x1.toArray⟩, .string ⟨x2.toArray⟩] 23))
  have N1 := Lib.hid (new2 w1 (.string ⟨x1.toArray⟩) (.string ⟨x2.toArray⟩) 23)
  have Z1 : Hid (w1.heap.size < (w1.alloc (.cells #[.string ⟨x1.toArray⟩, .string ⟨x2.toArray⟩] 23)).heap.size) := Lib.hid (by rw [World.size_alloc]; omega)
  clear a1'
  go_wp2_with fail
  refine (HT.out _).mono ?_
  rintro e w2 ⟨rfl, a2⟩
  have N2 := Lib.hid (new2 w2 (.string ⟨x1.toArray⟩) (.string ⟨x2.toArray⟩) 23)
  have A2 := Lib.hid (a2.alloc (.cells #[.string ⟨x1.toArray⟩, .string ⟨x2.toArray⟩] 23))
  have Z2 : Hid (w2.heap.size < (w2.alloc (.cells #[.string ⟨x1.toArray⟩, .string ⟨x2.toArray⟩] 23)).heap.size) := Lib.hid (by rw [World.size_alloc]; omega)
  clear a2
  obtain ⟨G1, hG1⟩ : ∃ G1, w1.heap.size = G1 := ⟨_, rfl⟩
  obtain ⟨G2, hG2⟩ : ∃ G2, w2.heap.size = G2 := ⟨_, rfl⟩
  have M2 : Hid (((w2.alloc (.cells #[.string ⟨x1.toArray⟩, .string ⟨x2.toArray⟩] 23)).cell? ⟨G1, 0, none⟩ = some (.string ⟨x1.toArray⟩) ∧ (w2.alloc (.cells #[.string ⟨x1.toArray⟩, .string ⟨x2.toArray⟩] 23)).cell? ⟨G1, 1, none⟩ = some (.string ⟨x2.toArray⟩)) ∧ ((w2.alloc (.cells #[.string ⟨x1.toArray⟩, .string ⟨x2.toArray⟩] 23)).cell? ⟨G2, 0, none⟩ = some (.string ⟨x1.toArray⟩) ∧ (w2.alloc (.cells #[.string ⟨x1.toArray⟩, .string ⟨x2.toArray⟩] 23)).cell? ⟨G2, 1, none⟩ = some (.string ⟨x2.toArray⟩)) ∧ G1 < (w2.alloc (.cells #[.string ⟨x1.toArray⟩, .string ⟨x2.toArray⟩] 23)).heap.size ∧ G2 < (w2.alloc (.cells #[.string ⟨x1.toArray⟩, .string ⟨x2.toArray⟩] 23)).heap.size) := Lib.hid (by
    subst hG1 hG2
    refine ⟨⟨?_, ?_⟩, N2.out, Nat.lt_of_lt_of_le Z1.out A2.out.size, Z2.out⟩
    · rw [Below.cell A2.out.to (p := ⟨w1.heap.size, 0, none⟩) Z1.out]; exact N1.out.1
    · rw [Below.cell A2.out.to (p := ⟨w1.heap.size, 1, none⟩) Z1.out]; exact N1.out.2)
  have A3 := Lib.hid (A1.out.trans A2.out)
  clear N1 N2 Z1 Z2 A1 A2 HS HT
  go_wp2_with fail
  clear hG1 hG2
  generalize w2.alloc (.cells #[.string ⟨x1.toArray⟩, .string ⟨x2.toArray⟩] 23) = W2 at M2 A3 ⊢
  refine (HRO.out _ (HR.out.aft A3.out)).mono ?_
  rintro e w4 ⟨g, rfl, hfb, a4⟩
  have A4 := Lib.hid (A3.out.trans a4)
  have hKL : ∀ w', Aft w4 w' → (w'.cell? ⟨G1, 0, none⟩ = some (.string ⟨x1.toArray⟩) ∧ w'.cell? ⟨G1, 1, none⟩ = some (.string ⟨x2.toArray⟩)) ∧ (w'.cell? ⟨G2, 0, none⟩ = some (.string ⟨x1.toArray⟩) ∧ w'.cell? ⟨G2, 1, none⟩ = some (.string ⟨x2.toArray⟩)) := by
    intro w' hw'
    have ha := a4.trans hw'
    refine ⟨⟨?_, ?_⟩, ⟨?_, ?_⟩⟩
    · rw [Below.cell ha.to (p := ⟨G1, 0, none⟩) M2.out.2.2.1]; exact M2.out.1.1
    · rw [Below.cell ha.to (p := ⟨G1, 1, none⟩) M2.out.2.2.1]; exact M2.out.1.2
    · rw [Below.cell ha.to (p := ⟨G2, 0, none⟩) M2.out.2.2.2]; exact M2.out.2.1.1
    · rw [Below.cell ha.to (p := ⟨G2, 1, none⟩) M2.out.2.2.2]; exact M2.out.2.1.2
  have HKL := Lib.hid hKL
  clear a4 hKL M2 A3
  go_wp2_with fail
  go_loopw [10, 11] (fun vs vi wr => ∃ (k : Nat) (s : Nat), k ≤ l.length ∧ vi = .int .i64 (k : Int) ∧ vs = .int .i64 (s : Int) ∧ Hid (sumF (l.take k) = s) ∧ Hid (Aft w4 wr)) (fun _ vi _ => l.length - (intOf vi).toNat)
  case atStart => exact ⟨0, 0, by omega, by go_num, by go_num, Lib.hid rfl, Lib.hid (Aft.refl _)⟩
  case round =>
    obtain ⟨k, s, hk, rfl, rfl, HX, HA⟩ := hrel
    by_cases hlt : k < l.length
    · have hne : l ≠ [] := by intro e; rw [e] at hlt; simp at hlt
      have hpa := P1.out hne
      have hbb := Q1.out hne
      have hx := R1.out k hlt
      have hsn : sumF (l.take (k + 1)) = s + fsize l[k] := by
        rw [List.take_succ_eq_append_getElem hlt, sumF_append, HX.out]
        simp [sumF]
      have hle : s + fsize l[k] ≤ 1000000000000 := by
        rw [← hsn]
        have := HLE.out
        exact Nat.le_trans (sumF_take l (k + 1)) (by omega)
      have HSN := Lib.hid hsn
      generalize l[k] = f at hx HSN hle
      have HB := Lib.hid (bytes_any f (by omega))
      have HRB := Lib.hid (rbytes_any f (by omega))
      have HLS := Lib.hid hle
      obtain ⟨n, hn⟩ : ∃ n, fsize f = n := ⟨_, rfl⟩
      rw [hn] at HB HRB HLS HSN
      unfold fieldV at HB HRB
      obtain ⟨f1, f2⟩ := f
      unfold strV at hx
      simp only at hx HB HRB
      generalize (⟨f1.toArray⟩ : ByteArray) = S1 at hx HB HRB
      generalize (⟨f2.toArray⟩ : ByteArray) = S2 at hx HB HRB
      have hCE : ∀ w', Aft w4 w' → w'.cell? ⟨b1, o1 + k * 2, none⟩ = some (.string S1) ∧ w'.cell? ⟨b1, o1 + k * 2 + 1, none⟩ = some (.string S2) := by
        intro w' hw'
        have ha := A4.out.trans hw'
        refine ⟨?_, ?_⟩
        · rw [Below.cell ha.to (p := ⟨b1, o1 + k * 2, none⟩) hbb]; exact hx.1
        · rw [Below.cell ha.to (p := ⟨b1, o1 + k * 2 + 1, none⟩) hbb]; exact hx.2
      have HCE := Lib.hid hCE
      subst hpa
      have hkl : (k : Int) < (l.length : Int) := by omega
      clear hx hsn hne hle hn hCE hbb
      obtain ⟨y1, y2⟩ := HCE.out _ HA.out
      go_wp2_with fail
      refine (HRB.out _).mono ?_
      rintro e w5 ⟨rfl, a5⟩
      have HA5 := Lib.hid (HA.out.trans a5)
      clear a5 y1 y2
      have g1 : IntKind.i64.wrap ((s : Int) + (n : Int)) = (s : Int) + (n : Int) := IntWalk.i64_in _ (by have := HLS.out; omega)
      obtain ⟨y1, y2⟩ := HCE.out _ HA5.out
      obtain ⟨z1, z2⟩ := HCE.out _ HA5.out.drew
      go_wp2_with fail
      go_region_law (first
        | (go_simp; go_at_call 9; refine (HB.out _).mono ?_; rintro e w6 ⟨rfl, a6⟩; have A6 : Aft w4 w6 := Aft.trans (by first | assumption | exact HA5.out.drew | exact HA5.out) a6; obtain ⟨y1, y2⟩ := HCE.out _ A6)
        | (go_simp; go_at_call 13; refine (HRB.out _).mono ?_; rintro e w6 ⟨rfl, a6⟩; have A6 : Aft w4 w6 := Aft.trans (by first | assumption | exact HA5.out.drew | exact HA5.out) a6; obtain ⟨y1, y2⟩ := HCE.out _ A6))
      all_goals
        go_wp2_with fail
        go_roundw
        case rel => exact ⟨k + 1, s + n, by omega, by go_num, by push_cast; rfl, HSN, Lib.hid (by first | exact A6 | exact A6.drew)⟩
        case measure => simp [intOf] <;> omega
    · have hk2 : k = l.length := by omega
      subst hk2
      have HT : Hid (sumF l = s) := Lib.hid (by rw [← HX.out, List.take_of_length_le (Nat.le_refl _)])
      obtain ⟨⟨u1, u2⟩, ⟨u3, u4⟩⟩ := HKL.out _ HA.out
      rw [HT.out] at HSU
      obtain ⟨r1, r2⟩ := HFR.out _ _ hfb.out
      have R2 := Lib.hid (r2.aft HA.out)
      have RF := Lib.hid (r1.aft HA.out)
      have HAW := Lib.hid (A4.out.trans HA.out)
      clear r1 r2 HX HT
      go_wp2_with fail
      refine (HSU.out _ _ R2.out).mono ?_
      rintro e w7 ⟨rfl, a7⟩
      have A7 := Lib.hid (HAW.out.trans a7)
      have B7 := Lib.hid a7
      clear a7
      go_wp2_with fail
      refine (HIN.out _ _ (RF.out.aft B7.out) (HR.out.aft A7.out)).mono ?_
      rintro e w8 ⟨rfl, a8⟩
      have A8 := Lib.hid (A7.out.trans a8)
      clear a8
      go_wp2_with fail
      refine (runs_any _ (HM.out.aft A8.out)).mono ?_
      rintro e w9 ⟨rfl, a9⟩
      have A9 := Lib.hid (A8.out.trans a9)
      clear a9
      go_wp2_with fail
      go_ret
      exact ⟨rfl, A9.out⟩

theorem walkFieldsTells (w : World) (hsh : w.ShapedOpen Tryd.prog) {H : Type} {enc : TypeId × Value → H} {base : Nat} {v1 : Value} {d1 : DataW H} {p1 : List MemPlace} (a0 : Int) (w0 : (Lit.int .i64 a0).wf = true)
    (hval1 : Value.okWide Tryd.prog w .any base 30 v1) (k1 : DataW.Trod enc Tryd.prog w 0 (fun _ => true) true 30 v1 d1 p1) (hk : Rows.uptoSmall H [.lit (.int .i64 a0), d1] = true) :
    Calls Tryd.prog 4 #[.int .i64 a0, v1] w fun e w' => e = .returned (.bool true) ∧ Aft w w' := by
  obtain ⟨l, h0, b0⟩ := open_fieldsB hval1 k1
  have := upto_intF hk
  have hb := bounds_i64 w0
  exact tells_any a0 hb.1 hb.2 v1 l w (maxOk_of w hsh) h0 (by omega)

end Go.Proofs.YtdachmjchgnabaaDoor
