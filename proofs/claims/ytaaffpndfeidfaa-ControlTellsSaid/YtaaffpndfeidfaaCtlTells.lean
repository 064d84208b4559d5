/-
  ControlTells, where the arguments are not too great.
-/
import Derived.Test.YtaaffpndfeidfaaCtlLight
import Derived.Test.YtaaffpndfeidfaaArgFR
namespace Go.Proofs.Ytaaffpndfeidfaa
open Go.ChangeShapes Go.WideShapes Go.ChangeAt Go.RowKit
set_option linter.unusedVariables false

theorem full_rb16 {w : World} {g : Nat} {l : List FieldL} (h : FB w g (l ++ List.replicate 80 markF)) (hlen : l.length ≤ 1000000) : RbF w (.slice (some ⟨g, 0, none⟩) (l.length + 80) (l.length + 80)) (l ++ List.replicate 80 markF) ∧ RbF w (.slice (some ⟨g, 0, none⟩) l.length (l.length + 80)) l := by
  have hll : (l ++ List.replicate 80 markF).length = l.length + 80 := by simp
  have hm : (l ++ List.replicate 80 markF).length ≤ maxLen := by rw [hll]; unfold maxLen; omega
  have h1 := h.rb hm (l.length + 80) (by omega)
  have h2 := h.rb hm l.length (by omega)
  rw [hll] at h1 h2
  rw [List.take_of_length_le (by omega)] at h1
  rw [List.take_left'] at h2
  · exact ⟨h1, h2⟩
  · rfl

set_option maxHeartbeats 8000000 in
theorem ctells_any (s : ByteArray) (hs : s.size ≤ maxLen) (v : Value) (l : List FieldL) (w : World) (hr : RbF w v l) (hb : FieldsLim l) :
    Calls Try.prog 3 #[.string s, v] w fun e w' => e = .returned (.bool true) ∧ Aft w w' := by
  have HL := Lib.hid (fun w hr => light16_any v l w hr hb)
  have HR := Lib.hid hr
  by_cases h300 : s.size > 300
  · have i1 : (s.size : Int) > 300 := by omega
    clear hs h300 hr hb HL HR
    go_enter Try.func3, Try.ntmps3
    go_wp2_with fail
    refine (ctlruns_any _).mono ?_
    rintro e w1 ⟨rfl, a1⟩
    go_wp2_with fail
    go_ret
    exact ⟨rfl, a1⟩
  · have i1 : ¬ ((s.size : Int) > 300) := by omega
    by_cases hl2 : sumL l ≤ 2000
    · have hlen := sumL_len l
      have hlt : l.length ≤ 2000 := by omega
      have hvv : ∀ f ∈ l, f.2.length ≤ 2000 := fun f hf => by have := sumL_mem hf; omega
      have hj : (Lib.join (valsF nCC l) [44, 32]).length ≤ 100000000 := by
        obtain ⟨h1, h2⟩ := vals_len nCC l hvv
        have := join_len _ h1
        omega
      rw [decide_eq_true hl2] at HL
      have HRO := Lib.hid (fun w h => roomyF_any v l w h (by omega))
      have HIN := Lib.hid (fun v1 w h1 h2 => intactF_any v1 v l w h1 h2 (by omega))
      have HFR := Lib.hid (fun (w : World) g h => full_rb16 (w := w) (g := g) (l := l) h (by omega))
      have HOC := Lib.hid (fun v w h => of_ctl v l w h (by omega) hj)
      have HRC := Lib.hid (fun w h => rctl_any v l w h hlt hvv)
      have HSE := Lib.hid (fun w => seconds_any s w (by unfold maxLen; omega))
      have HSN := Lib.hid (fun w => rnumber_any s w (by unfold maxLen; omega))
      obtain ⟨x, hx⟩ : ∃ x, secF s.data.toList = x := ⟨_, rfl⟩
      rw [hx] at HSE HSN
      obtain ⟨c, hc⟩ : ∃ c, ctlF l = c := ⟨_, rfl⟩
      rw [hc] at HOC HRC
      obtain ⟨c0, c1, c2, c3, c4, c5, c6, c7, c8, c9⟩ := c
      have hv : ctlV ⟨c0, c1, c2, c3, c4, c5, c6, c7, c8, c9⟩ = .agg #[.bool c0, .bool c1, .bool c2, .bool c3, .bool c4, .bool c5, .int .i64 c6, .int .i64 c7, .int .i64 c8, .int .i64 c9] := rfl
      rw [hv] at HOC HRC
      obtain ⟨a, cap, bb, off, rfl, _, _, _, _, _⟩ := hr.open
      have hl3 : l.length ≤ l.length + 80 := by omega
      have hl4 : (l.length : Int) ≤ ((l.length + 80 : Nat) : Int) := by omega
      clear hs h300 hr hb hl2 hlen hvv hj hx hc hv hlt
      go_enter Try.func3, Try.ntmps3
      go_wp2_with fail
      refine (HL.out _ HR.out).mono ?_
      rintro e w1 ⟨rfl, a1⟩
      have A1 := Lib.hid a1
      clear a1
      go_wp2_with fail
      refine (HRO.out _ (HR.out.aft A1.out)).mono ?_
      rintro e w2 ⟨g, rfl, hfb, a2⟩
      obtain ⟨r1, r2⟩ := HFR.out _ _ hfb.out
      have R1 := Lib.hid r1
      have R2 := Lib.hid r2
      have A2 := Lib.hid (A1.out.trans a2)
      clear a2 r1 r2
      go_wp2_with (first
        | (go_at_call 9; refine (HSE.out _).mono ?_; rintro e w6 ⟨rfl, rfl⟩)
        | (go_at_call 10; refine (HSN.out _).mono ?_; rintro e w6 ⟨rfl, rfl⟩))
      refine (HOC.out _ _ R2.out).mono ?_
      rintro e w3 ⟨rfl, a3⟩
      have A3 := Lib.hid (A2.out.trans a3)
      have B3 := Lib.hid a3
      clear a3
      go_wp2_with fail
      refine (HRC.out _ (HR.out.aft A3.out)).mono ?_
      rintro e w4 ⟨rfl, a4⟩
      have A4 := Lib.hid (A3.out.trans a4)
      have B4 := Lib.hid (B3.out.trans a4)
      clear a4
      go_wp2_with fail
      refine (HIN.out _ _ (R1.out.aft B4.out) (HR.out.aft A4.out)).mono ?_
      rintro e w5 ⟨rfl, a5⟩
      have A5 := Lib.hid (A4.out.trans a5)
      clear a5
      go_wp2_with fail
      refine (ctlruns_any _).mono ?_
      rintro e w8 ⟨rfl, a8⟩
      have A8 := Lib.hid (A5.out.trans a8)
      clear a8
      go_wp2_with fail
      go_ret
      exact ⟨rfl, A8.out⟩
    · rw [decide_eq_false hl2] at HL
      clear hs h300 hr hb hl2
      go_enter Try.func3, Try.ntmps3
      go_wp2_with fail
      refine (HL.out _ HR.out).mono ?_
      rintro e w1 ⟨rfl, a1⟩
      go_wp2_with fail
      refine (ctlruns_any _).mono ?_
      rintro e w2 ⟨rfl, a2⟩
      go_wp2_with fail
      go_ret
      exact ⟨rfl, a1.trans a2⟩

theorem walkControlTells (w : World) (_hsh : w.ShapedOpen Try.prog) {H : Type} {enc : TypeId × Value → H} {base : Nat} {v1 : Value} {d1 : DataW H} {p1 : List MemPlace} (a0 : ByteArray) (w0 : a0.size ≤ maxLen)
    (hval1 : Value.okWide Try.prog w .any base 22 v1) (k1 : DataW.Trod enc Try.prog w 0 (fun _ => true) true 22 v1 d1 p1) (hk : (DataW.weightsEach Try.prog [9, 22] [(.lit (.string a0.data.toList) : DataW H), d1]).all (· ≤ reachBytes) = true) :
    Calls Try.prog 3 #[.string a0, v1] w fun e w' => e = .returned (.bool true) ∧ Aft w w' := by
  obtain ⟨l, h0, b0⟩ := open_fieldsR hval1 k1 (wt_at hk (j := 1) rfl rfl)
  exact ctells_any a0 w0 v1 l w h0 b0

end Go.Proofs.Ytaaffpndfeidfaa
