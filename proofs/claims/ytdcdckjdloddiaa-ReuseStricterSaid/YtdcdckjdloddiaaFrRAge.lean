/-
  The reference's chapter 19: one, when, dated, has, plain, clamp, Clean, Share. The reference's Lifetime. The reference's Age.
-/
import Derived.Test.YtdcdckjdloddiaaFrWalk
import Derived.Test.YtdcdckjdloddiaaPlainSt
import Derived.Test.YtdcdckjdloddiaaRAll
import Derived.Test.YtdcdckjdloddiaaRCtl
import Derived.Test.YtdcdckjdloddiaaDayRef
import Derived.Test.YtdcdckjdloddiaaDayAgree
import Derived.Test.YtdcdckjdloddiaaFrAge
namespace Go.Proofs.Ytdcdckjdloddiaa
open Go.RowKit
set_option linter.unusedVariables false

theorem clampI_alt (n : Int) : max 0 (min n 2147483647) = clampI n := by unfold clampI; omega
theorem rclean_any (x : Nat) (w : World) : Calls Try.prog 61 #[.float .f64 x] w fun e w' => e = .returned (.float .f64 (cleanB x)) ∧ w = w' := by
  unfold cleanB oneB
  by_cases h1 : (FloatKind.f64.format.order x 4607182418800017408 == some .gt) = true
  · have e1 : (if (Ieee.double.order x 4607182418800017408 == some .gt) = true then 4607182418800017408 else if (Ieee.double.order x 0 == some .gt) = true then x else 0) = 4607182418800017408 := if_pos h1
    rw [e1]
    clear e1
    go_enter Try.func61, Try.ntmps61
    go_wp2_with fail
    go_ret
    exact ⟨rfl, rfl⟩
  · have h1' : (FloatKind.f64.format.order x 4607182418800017408 == some .gt) = false := by simpa using h1
    by_cases h2 : (FloatKind.f64.format.order x 0 == some .gt) = true
    · have e1 : (if (Ieee.double.order x 4607182418800017408 == some .gt) = true then 4607182418800017408 else if (Ieee.double.order x 0 == some .gt) = true then x else 0) = x := (if_neg h1).trans (if_pos h2)
      rw [e1]
      clear e1 h1
      go_enter Try.func61, Try.ntmps61
      go_wp2_with fail
      go_ret
      exact ⟨rfl, rfl⟩
    · have h2' : (FloatKind.f64.format.order x 0 == some .gt) = false := by simpa using h2
      have e1 : (if (Ieee.double.order x 4607182418800017408 == some .gt) = true then 4607182418800017408 else if (Ieee.double.order x 0 == some .gt) = true then x else 0) = 0 := (if_neg h1).trans (if_neg h2)
      rw [e1]
      clear e1 h1 h2
      go_enter Try.func61, Try.ntmps61
      go_wp2_with fail
      go_ret
      exact ⟨rfl, rfl⟩
set_option maxRecDepth 10000 in
theorem rshare_any (n : Int) (x : Nat) (h0 : 0 ≤ n) (h1 : n ≤ 2147483647) (w : World) : Calls Try.prog 43 #[.int .i64 n, .float .f64 x] w fun e w' => e = .returned (.int .i64 (shareI n x)) ∧ w = w' := by
  obtain ⟨e1, e2, -⟩ := share_spec n x h0 h1
  have HCL := Lib.hid (fun w => rclean_any x w)
  have hmn : min n 2147483647 = n := by omega
  have hmx : max 0 n = n := by omega
  have hmul : ∀ w : World, (binOp .mul 29 (.float .f64 (floatOfInt .f64 n)) (.float .f64 (cleanB x))).run Try.prog w = .ok (.float .f64 (shareR n x)) w := fun w => run_float_arith w .mul _ .f64 _ _ _ e1
  have hcv : ∀ w : World, (convert 29 3 (.float .f64 (shareR n x))).run Try.prog w = .ok (.int .i64 (shareI n x)) w := fun w => run_convert_float_int w _ _ .f64 .i64 _ _ rfl rfl e2
  generalize shareR n x = r at hmul hcv
  generalize shareI n x = k at hcv ⊢
  generalize cleanB x = c at hmul HCL
  clear e1 e2 h0 h1
  go_enter Try.func43, Try.ntmps43
  go_wp2_with fail
  refine (HCL.out _).mono ?_
  rintro e w1 ⟨rfl, rfl⟩
  go_wp2_with fail
  go_ret
  exact ⟨rfl, rfl⟩
theorem rclamp_any (n : Int) (w : World) : Calls Try.prog 44 #[.int .i64 n] w fun e w' => e = .returned (.int .i64 (clampI n)) ∧ w = w' := by
  rw [← clampI_alt]
  go_enter Try.func44, Try.ntmps44
  go_wp2_with fail
  go_ret
  exact ⟨rfl, rfl⟩
set_option maxHeartbeats 2000000 in
theorem rplain_st (n : Int) (w : World) :
    Calls Try.prog 42 #[.int .i64 n] w fun e w' => e = .returned (.bool (plS n)) ∧ w = w' := by
  obtain ⟨b, hb⟩ : ∃ b, plS n = b := ⟨_, rfl⟩
  rw [hb]
  have HB := Lib.hid hb
  clear hb
  go_enter Try.func42, Try.ntmps42
  go_wp2_with fail
  all_goals
    go_ret
    refine ⟨ret_bool ?_, rfl⟩
    have hb := HB.out
    unfold plS at hb
    first
      | (rw [← hb]; rfl)
      | (rw [← hb]; simp [*])
      | (rw [← hb]; symm; simp; omega)

/-- Fields as small as the reference's walks want them. -/
structure ROk (l : List FieldL) : Prop where
  len : l.length ≤ 2000
  val : ∀ f ∈ l, f.2.length ≤ 2000
theorem ROk.fok {l : List FieldL} (h : ROk l) : FOk l :=
  ⟨by have := h.len; omega, fun name => by
    obtain ⟨h1, h2⟩ := vals_len name l h.val
    have := join_len _ h1
    have := h.len
    omega⟩
theorem rone_any (v : Value) (l : List FieldL) (name : ByteArray) (w : World) (hr : RbF w v l) (hk : ROk l) :
    Calls Try.prog 45 #[v, .string name] w fun e w' => e = .returned (.tuple #[.string ⟨(Lib.join (valsF name.data.toList l) [44, 32]).toArray⟩, .bool (decide ((valsF name.data.toList l).length = 1))]) ∧ Aft w w' := by
  have HAL := Lib.hid (rall_any v l name w hr (by have := hk.len; omega) hk.val)
  generalize (⟨(Lib.join (valsF name.data.toList l) [44, 32]).toArray⟩ : ByteArray) = J at HAL ⊢
  generalize (valsF name.data.toList l).length = n at HAL ⊢
  have hb : ((n : Int) == 1) = decide (n = 1) := by rw [Bool.eq_iff_iff]; simp; omega
  generalize decide (n = 1) = b at hb ⊢
  clear hr hk
  go_enter Try.func45, Try.ntmps45
  go_wp2_with fail
  refine HAL.out.mono ?_
  rintro e w1 ⟨rfl, a1⟩
  go_wp2_with fail
  go_ret2
  exact ⟨rfl, a1⟩
theorem rhas_any (v : Value) (l : List FieldL) (name : ByteArray) (w : World) (hr : RbF w v l) (hk : ROk l) :
    Calls Try.prog 39 #[v, .string name] w fun e w' => e = .returned (.bool (decide (0 < (valsF name.data.toList l).length))) ∧ Aft w w' := by
  have HAL := Lib.hid (rall_any v l name w hr (by have := hk.len; omega) hk.val)
  generalize (⟨(Lib.join (valsF name.data.toList l) [44, 32]).toArray⟩ : ByteArray) = J at HAL ⊢
  generalize (valsF name.data.toList l).length = n at HAL ⊢
  clear hr hk
  go_enter Try.func39, Try.ntmps39
  go_wp2_with fail
  refine HAL.out.mono ?_
  rintro e w1 ⟨rfl, a1⟩
  go_wp2_with fail
  go_ret
  first | exact ⟨rfl, a1⟩ | exact ⟨ret_bool (by simp), a1⟩
theorem rwhen_any (v : Value) (l : List FieldL) (name : ByteArray) (w : World) (hr : RbF w v l) (hk : ROk l) :
    Calls Try.prog 40 #[v, .string name] w fun e w' => e = .returned (.tuple #[.int .i64 (dF name.data.toList l).1, .bool (dF name.data.toList l).2]) ∧ Aft w w' := by
  have HON := Lib.hid (rone_any v l name w hr hk)
  obtain ⟨J, hJ⟩ : ∃ J : ByteArray, (⟨(Lib.join (valsF name.data.toList l) [44, 32]).toArray⟩ : ByteArray) = J := ⟨_, rfl⟩
  have hJl : J.data.toList = Lib.join (valsF name.data.toList l) [44, 32] := by rw [← hJ]
  rw [hJ] at HON
  have HRD := Lib.hid (fun w => refday_any J w)
  rw [refF_eq] at HRD
  unfold dF
  rw [← hJl]
  generalize (valsF name.data.toList l).length = n at HON ⊢
  generalize Dp.readF J.data.toList = q at HRD ⊢
  obtain ⟨q1, q2⟩ := q
  clear hJ hJl hr hk
  by_cases h1 : n = 1
  · rw [if_pos h1]
    rw [decide_eq_true h1] at HON
    clear h1
    go_enter Try.func40, Try.ntmps40
    go_wp2_with fail
    refine HON.out.mono ?_
    rintro e w1 ⟨rfl, a1⟩
    go_wp2_with fail
    refine (HRD.out _).mono ?_
    rintro e w2 ⟨rfl, a2⟩
    go_wp2_with fail
    go_ret2
    exact ⟨rfl, a1.trans a2⟩
  · rw [if_neg h1]
    rw [decide_eq_false h1] at HON
    clear h1
    go_enter Try.func40, Try.ntmps40
    go_wp2_with fail
    refine HON.out.mono ?_
    rintro e w1 ⟨rfl, a1⟩
    go_wp2_with fail
    go_ret2
    exact ⟨rfl, a1⟩
theorem rdated_any (R : Array Value) (st : Int) (vs : Value) (ask ca : Int) (l : List FieldL) (w : World) (hR : EntR R st vs ask ca) (hr : RbF w vs l) (hk : ROk l) :
    Calls Try.prog 41 #[.agg R] w fun e w' => e = .returned (.int .i64 (datedF l ca)) ∧ Aft w w' := by
  have HDT := Lib.hid (fun w h => rwhen_any vs l ⟨nDate.toArray⟩ w h hk)
  have en : (⟨nDate.toArray⟩ : ByteArray).data.toList = nDate := rfl
  rw [en] at HDT
  have hA : Aft w (w.alloc (.cells R 28)) := (Aft.refl w).alloc _
  have hB : EB (w.alloc (.cells R 28)) w.heap.size R := heap_alloc_new w _
  have HR := Lib.hid hR
  have HRB := Lib.hid (hr.aft hA)
  have HA := Lib.hid hA
  have HB := Lib.hid hB
  obtain ⟨aq, cq, bq, oq, rfl, -⟩ := hr.open
  unfold datedF
  generalize dF nDate l = d at HDT ⊢
  obtain ⟨d1, d2⟩ := d
  clear hA hB hr hR hk en
  go_enter Try.func41, Try.ntmps41
  go_upto_region 1 with fail
  generalize w.heap.size = g at HB ⊢
  generalize w.alloc (.cells R 28) = W at HA HB HRB ⊢
  obtain ⟨c6, c7, c10, c11⟩ := HB.out.cells HR.out
  go_wp2_with fail
  refine (HDT.out _ HRB.out).mono ?_
  rintro e w1 ⟨rfl, a1⟩
  have HB1 := Lib.hid (HB.out.aft a1)
  have HA1 := Lib.hid (HA.out.trans a1)
  clear a1 c6 c7 c10 c11
  obtain ⟨c6, c7, c10, c11⟩ := HB1.out.cells HR.out
  cases d2
  · go_wp2_with fail
    go_ret
    exact ⟨ret_int (clampI_alt ca), HA1.out⟩
  · go_wp2_with fail
    go_ret
    exact ⟨rfl, HA1.out⟩

end Go.Proofs.Ytdcdckjdloddiaa
namespace Go.Proofs.Ytdcdckjdloddiaa
open Go.RowKit
set_option linter.unusedVariables false

set_option maxHeartbeats 8000000 in
set_option maxRecDepth 100000 in
theorem rlifetime_any (R : Array Value) (st : Int) (vs : Value) (ask ca : Int) (l : List FieldL) (x : Nat) (w : World) (hR : EntR R st vs ask ca) (hr : RbF w vs l) (hk : ROk l) :
    Calls Try.prog 17 #[.agg R, .float .f64 x] w fun e w' => e = .returned (.int .i64 (lifeF st l ca x)) ∧ Aft w w' := by
  have HOF := Lib.hid (fun w h => rctl_any vs l w h hk.len hk.val)
  have HDD := Lib.hid (fun w h => rdated_any R st vs ask ca l w hR h hk)
  have HHE := Lib.hid (fun w h => rhas_any vs l ⟨nExp.toArray⟩ w h hk)
  have HDE := Lib.hid (fun w h => rwhen_any vs l ⟨nExp.toArray⟩ w h hk)
  have HDL := Lib.hid (fun w h => rwhen_any vs l ⟨nLast.toArray⟩ w h hk)
  have HPL := Lib.hid (fun w => rplain_st st w)
  have HSH := Lib.hid (fun n h0 h1 w => rshare_any n x h0 h1 w)
  have en1 : (⟨nExp.toArray⟩ : ByteArray).data.toList = nExp := rfl
  have en2 : (⟨nLast.toArray⟩ : ByteArray).data.toList = nLast := rfl
  rw [en1] at HDE HHE
  rw [en2] at HDL
  have hA : Aft w (w.alloc (.cells R 28)) := (Aft.refl w).alloc _
  have hB : EB (w.alloc (.cells R 28)) w.heap.size R := heap_alloc_new w _
  have HR := Lib.hid hR
  have HRB := Lib.hid (hr.aft hA)
  have HA := Lib.hid hA
  have HB := Lib.hid hB
  obtain ⟨aq, cq, bq, oq, hvs, -⟩ := hr.open
  unfold lifeF
  have okf := datedF_bd l ca
  have oke := dF_bd nExp l
  have okl := dF_bd nLast l
  rw [show plS19 st = plS st from rfl]
  generalize ctlF l = c at HOF ⊢
  generalize datedF l ca = fr at HDD okf ⊢
  generalize dF nExp l = ex at HDE oke ⊢
  generalize dF nLast l = lm at HDL okl ⊢
  generalize (valsF nExp l).length = ne at HHE ⊢
  generalize plS st = pl at HPL ⊢
  obtain ⟨L, hL⟩ : ∃ L, lifeB c fr ne ex lm pl x = L := ⟨_, rfl⟩
  rw [hL]
  obtain ⟨ex1, ex2⟩ := ex
  obtain ⟨lm1, lm2⟩ := lm
  obtain ⟨c0, c1, c2, c3, c4, c5, c6, c7, c8, c9⟩ := c
  unfold lifeB at hL
  simp only at hL okf oke okl
  have HL := Lib.hid hL
  obtain ⟨Rc, hRc⟩ : ∃ Rc, (ctlC ⟨c0, c1, c2, c3, c4, c5, c6, c7, c8, c9⟩).toArray = Rc := ⟨_, rfl⟩
  have HPR := Lib.hid (fun w => ctl_pre19 w ⟨c0, c1, c2, c3, c4, c5, c6, c7, c8, c9⟩)
  have HPU := Lib.hid (fun w => ctl_put w ⟨c0, c1, c2, c3, c4, c5, c6, c7, c8, c9⟩)
  rw [show ctlV ⟨c0, c1, c2, c3, c4, c5, c6, c7, c8, c9⟩ = .agg Rc by rw [← hRc]; rfl] at HOF
  rw [hRc] at HPR HPU
  have HINF := Lib.hid hR.info
  subst hvs
  clear hA hB hr hR hk en1 en2 hL hRc
  go_enter Try.func17, Try.ntmps17
  go_upto_region 1 with fail
  generalize w.heap.size = g at HB ⊢
  generalize w.alloc (.cells R 28) = W at HA HB HRB ⊢
  obtain ⟨e6, e7, e10, e11⟩ := HB.out.cells HR.out
  go_wp2_with fail
  refine (HOF.out _ HRB.out).mono ?_
  rintro e w1 ⟨rfl, a1⟩
  have HPR1 := Lib.hid (HPR.out w1)
  obtain ⟨hcb, ha2⟩ := HPU.out w1
  have ha3 := a1.trans ha2
  have HB2 := Lib.hid (HB.out.aft ha3)
  have HRB2 := Lib.hid (HRB.out.aft ha3)
  have HA2 := Lib.hid (HA.out.trans ha3)
  have HCB := Lib.hid hcb
  clear hcb ha2 ha3 a1 e6 e7 e10 e11 HPR HPU HOF HB HRB HA
  go_upto_region 2 with (refine wpList_store_rowTo rfl 48 (.tmp 5) (.tmp 13) rfl rfl w1.heap.size Rc rfl rfl _ _ HPR1.out.1 HPR1.out.2.1 HPR1.out.2.2.1 HPR1.out.2.2.2 ?_)
  obtain ⟨W2, hW2⟩ : ∃ W2, (w1.alloc (.cells (ctlC ctlZ).toArray 48)).setRow w1.heap.size Rc = W2 := ⟨_, rfl⟩
  rw [hW2] at HB2 HRB2 HA2 HCB
  rw [show (w1.alloc (.cells #[.bool false, .bool false, .bool false, .bool false, .bool false, .bool false, .int .i64 0, .int .i64 0, .int .i64 0, .int .i64 0] 48)).setRow w1.heap.size Rc = W2 from hW2]
  clear hW2 HPR1
  generalize w1.heap.size = B9 at HCB ⊢
  obtain ⟨r0, r1, r2, r3, r4, r5, r6, r7, r8, r9⟩ := HCB.out.cells
  obtain ⟨e6, e7, e10, e11⟩ := HB2.out.cells HR.out
  by_cases h7 : c7 ≥ 0
  · have HL2 : Hid (c7 = L) := Lib.hid ((if_pos h7).symm.trans HL.out)
    go_wp2_with fail
    go_ret
    exact ⟨ret_int HL2.out, HA2.out⟩
  have HL7 := Lib.hid ((if_neg h7).symm.trans HL.out)
  by_cases h6 : c6 ≥ 0
  · have HL2 : Hid (c6 = L) := Lib.hid ((if_pos h6).symm.trans HL7.out)
    go_wp2_with fail
    go_ret
    exact ⟨ret_int HL2.out, HA2.out⟩
  have HL6 := Lib.hid ((if_neg h6).symm.trans HL7.out)
  clear HL HL7
  go_wp2_with fail
  refine (HHE.out _ HRB2.out).mono ?_
  rintro e w3 ⟨rfl, a3⟩
  have HB3 := Lib.hid (HB2.out.aft a3)
  have HRB3 := Lib.hid (HRB2.out.aft a3)
  have HA3 := Lib.hid (HA2.out.trans a3)
  clear a3 r0 r1 r2 r3 r4 r5 r6 r7 r8 r9 e6 e7 e10 e11 HCB HB2 HRB2 HA2 h6 h7
  obtain ⟨e6, e7, e10, e11⟩ := HB3.out.cells HR.out
  by_cases hne : 0 < ne
  · have HLE := Lib.hid ((if_pos hne).symm.trans HL6.out)
    rw [decide_eq_true hne]
    clear hne HL6
    go_wp2_with fail
    refine (HDE.out _ HRB3.out).mono ?_
    rintro e w4 ⟨rfl, a4⟩
    have HB4 := Lib.hid (HB3.out.aft a4)
    have HRB4 := Lib.hid (HRB3.out.aft a4)
    have HA4 := Lib.hid (HA3.out.trans a4)
    clear a4 HB3 HRB3 HA3 e6 e7 e10 e11
    cases ex2
    · have HL2 : Hid (0 = L) := Lib.hid HLE.out
      go_wp2_with fail
      go_ret
      exact ⟨ret_int HL2.out, HA4.out⟩
    · have HL2 : Hid (max (ex1 - fr) 0 = L) := Lib.hid HLE.out
      have gw : IntKind.i64.wrap (ex1 - fr) = ex1 - fr := IntWalk.i64_in _ (by omega)
      go_wp2_with (refine wpList_load_row rfl 28 (.tmp 2) rfl g rfl _ R (0, 0) _ HB4.out Try.underlying28 rfl HINF.out ?_)
      refine (HDD.out _ HRB4.out).mono ?_
      rintro e w5 ⟨rfl, a5⟩
      have HA5 := Lib.hid (HA4.out.trans a5)
      clear a5
      go_wp2_with fail
      go_ret
      exact ⟨ret_int (by rw [← HL2.out]; exact Int.max_comm _ _), HA5.out⟩
  have HLE := Lib.hid ((if_neg hne).symm.trans HL6.out)
  rw [decide_eq_false hne]
  clear hne HL6
  go_wp2_with fail
  refine (HDL.out _ HRB3.out).mono ?_
  rintro e w5 ⟨rfl, a5⟩
  have HB5 := Lib.hid (HB3.out.aft a5)
  have HRB5 := Lib.hid (HRB3.out.aft a5)
  have HA5 := Lib.hid (HA3.out.trans a5)
  clear a5 HB3 HRB3 HA3 e6 e7 e10 e11
  obtain ⟨e6, e7, e10, e11⟩ := HB5.out.cells HR.out
  cases lm2
  · have HL2 : Hid (0 = L) := Lib.hid HLE.out
    go_wp2_with fail
    go_ret
    exact ⟨ret_int HL2.out, HA5.out⟩
  cases pl
  · have HL2 : Hid (0 = L) := Lib.hid ((if_neg (fun h => by cases h.2.2)).symm.trans HLE.out)
    go_wp2_with fail
    refine (HPL.out _).mono ?_
    rintro e w6 ⟨rfl, rfl⟩
    go_wp2_with fail
    go_ret
    exact ⟨ret_int HL2.out, HA5.out⟩
  go_wp2_with fail
  refine (HPL.out _).mono ?_
  rintro e w6 ⟨rfl, rfl⟩
  go_wp2_with (refine wpList_load_row_w rfl 28 (.tmp 2) rfl g rfl _ R (0, 0) _ HB5.out Try.underlying28 rfl HINF.out ?_)
  refine (HDD.out _ HRB5.out).mono ?_
  rintro e w6 ⟨rfl, a6⟩
  have HB6 := Lib.hid (HB5.out.aft a6)
  have HRB6 := Lib.hid (HRB5.out.aft a6)
  have HA6 := Lib.hid (HA5.out.trans a6)
  clear a6 HB5 HRB5 HA5 e6 e7 e10 e11
  by_cases hle : lm1 ≤ fr
  · have HL2 : Hid (shareI (fr - lm1) x = L) := Lib.hid ((if_pos (by simp [hle])).symm.trans HLE.out)
    have gw : IntKind.i64.wrap (fr - lm1) = fr - lm1 := IntWalk.i64_in _ (by omega)
    have HSX := Lib.hid (HSH.out (fr - lm1) (by omega) (by omega))
    go_wp2_with (refine wpList_load_row rfl 28 (.tmp 2) rfl g rfl _ R (0, 0) _ HB6.out Try.underlying28 rfl HINF.out ?_)
    refine (HDD.out _ HRB6.out).mono ?_
    rintro e w7 ⟨rfl, a7⟩
    have HA7 := Lib.hid (HA6.out.trans a7)
    clear a7
    go_wp2_with fail
    refine (HSX.out _).mono ?_
    rintro e w8 ⟨rfl, rfl⟩
    go_wp2_with fail
    go_ret
    exact ⟨ret_int HL2.out, HA7.out⟩
  · have HL2 : Hid (0 = L) := Lib.hid ((if_neg (fun h => hle h.2.1)).symm.trans HLE.out)
    go_wp2_with fail
    go_ret
    exact ⟨ret_int HL2.out, HA6.out⟩

end Go.Proofs.Ytdcdckjdloddiaa
namespace Go.Proofs.Ytdcdckjdloddiaa
open Go.RowKit
set_option linter.unusedVariables false

set_option maxHeartbeats 8000000 in
set_option maxRecDepth 100000 in
theorem rage_any (R : Array Value) (st : Int) (vs : Value) (ask ca now : Int) (l : List FieldL) (w : World) (hR : EntR R st vs ask ca) (hr : RbF w vs l) (hk : ROk l) :
    Calls Try.prog 18 #[.agg R, .int .i64 now] w fun e w' => e = .returned (.int .i64 (ageF l ask ca now)) ∧ Aft w w' := by
  have HDD := Lib.hid (fun w h => rdated_any R st vs ask ca l w hR h hk)
  have HON := Lib.hid (fun w h => rone_any vs l ⟨nAge.toArray⟩ w h hk)
  have en : (⟨nAge.toArray⟩ : ByteArray).data.toList = nAge := rfl
  rw [en] at HON
  obtain ⟨J, hJ⟩ : ∃ J : ByteArray, (⟨(Lib.join (valsF nAge l) [44, 32]).toArray⟩ : ByteArray) = J := ⟨_, rfl⟩
  have hJl : J.data.toList = Lib.join (valsF nAge l) [44, 32] := by rw [← hJ]
  have hJz : J.size ≤ maxLen := by
    rw [← size_len, hJl]
    have := hk.fok.join nAge
    unfold maxLen
    omega
  rw [hJ] at HON
  have HNB := Lib.hid (fun w => rnumber_any J w hJz)
  have HCA := Lib.hid (fun w => rclamp_any ask w)
  have HCC := Lib.hid (fun w => rclamp_any ca w)
  have HCN := Lib.hid (fun w => rclamp_any now w)
  have hA : Aft w (w.alloc (.cells R 28)) := (Aft.refl w).alloc _
  have hB : EB (w.alloc (.cells R 28)) w.heap.size R := heap_alloc_new w _
  have HR := Lib.hid hR
  have HRB := Lib.hid (hr.aft hA)
  have HA := Lib.hid hA
  have HB := Lib.hid hB
  have HINF := Lib.hid hR.info
  obtain ⟨aq, cq, bq, oq, hvs, -⟩ := hr.open
  unfold ageF ageB toldF
  have okd := datedF_bd l ca
  have oka := clampI_bd ask
  have okc := clampI_bd ca
  have okn := clampI_bd now
  rw [← hJl]
  have oks := secF_bd J.data.toList
  generalize secF J.data.toList = sj at HNB oks ⊢
  generalize datedF l ca = d at HDD okd ⊢
  generalize clampI ask = ka at HCA oka ⊢
  generalize clampI ca = kc at HCC okc ⊢
  generalize clampI now = kn at HCN okn ⊢
  obtain ⟨m, hm⟩ : ∃ m, max ka kc = m := ⟨_, rfl⟩
  have okm : 0 ≤ m ∧ m ≤ 2147483647 ∧ ka ≤ m := by omega
  obtain ⟨z, hz⟩ : ∃ z, max m kn = z := ⟨_, rfl⟩
  have hz2 : max kn m = z := by omega
  have okz : 0 ≤ z ∧ z ≤ 2147483647 ∧ m ≤ z := by omega
  rw [hm, hz]
  obtain ⟨t, ht⟩ : ∃ t, (if (valsF nAge l).length = 1 then max sj 0 else 0) = t := ⟨_, rfl⟩
  have okt : 0 ≤ t ∧ t ≤ 2147483647 := by
    rw [← ht]
    split <;> omega
  rw [ht]
  obtain ⟨y, hy⟩ : ∃ y, max (max 0 (m - d)) (t + m - ka) = y := ⟨_, rfl⟩
  have oky : 0 ≤ y ∧ y ≤ 4294967294 := by omega
  rw [hy]
  generalize (valsF nAge l).length = n at HON ht
  have HT := Lib.hid ht
  have HY := Lib.hid hy
  subst hvs
  have HBD := Lib.hid (And.intro okd (And.intro okt (And.intro oka (And.intro okm okz))))
  have HZ := Lib.hid hz2
  have HM := Lib.hid hm
  clear hA hB hr hR hk hy okd okt oka okc okn okm okz oky hz hm ht en hJ hJl hJz hz2 oks
  go_enter Try.func18, Try.ntmps18
  go_upto_region 1 with fail
  generalize w.heap.size = g at HB ⊢
  generalize w.alloc (.cells R 28) = W at HA HB HRB ⊢
  have A5 := (Aft.refl W).drew
  refine wp_region_held_drew (S := fun w' => EB w' g R ∧ RbF w' (.slice aq l.length cq) l) (by kernel_rfl) ⟨HB.out.aft ((Aft.refl W).drew), HRB.out.aft ((Aft.refl W).drew)⟩ (fun hHeld => ?_)
  refine wpAnyH_take (i := 0) (oi := { dst := some 11, op := Go.Op.fieldAddr 28 (Go.Operand.tmp 2) 3, type := 0, pos := _, after := _, guard := _ }) (v := ?_) rfl (by kernel_rfl) (by kernel_rfl) (by kernel_rfl) (fun _ _ _ h => h) (Or.inl ⟨by rfl, ?_⟩) (by exact hHeld) ?_
  rotate_left
  · intro w hSw; go_simp; try with_reducible rfl
  try simp only [Act.put]
  try simp only [List.setIfInBounds_toArray]
  try simp only [List.set]
  refine wpAnyH_take (i := 1) (oi := { dst := some 12, op := Go.Op.load 3 (Go.Operand.tmp 11), type := 3, pos := _, after := _, guard := _ }) (v := ?_) rfl (by kernel_rfl) (by kernel_rfl) (by kernel_rfl) (fun _ _ _ h => h) (Or.inl ⟨by rfl, ?_⟩) (by exact hHeld) ?_
  rotate_left
  · intro w hSw; obtain ⟨e6, e7, e10, e11⟩ := hSw.1.cells HR.out; go_simp; try with_reducible rfl
  try simp only [Act.put]
  try simp only [List.setIfInBounds_toArray]
  try simp only [List.set]
  refine wpAnyH_take (i := 3) (oi := { dst := some 14, op := Go.Op.fieldAddr 28 (Go.Operand.tmp 2) 3, type := 0, pos := _, after := _, guard := _ }) (v := ?_) rfl (by kernel_rfl) (by kernel_rfl) (by kernel_rfl) (fun _ _ _ h => h) (Or.inl ⟨by rfl, ?_⟩) (by exact hHeld) ?_
  rotate_left
  · intro w hSw; go_simp; try with_reducible rfl
  try simp only [Act.put]
  try simp only [List.setIfInBounds_toArray]
  try simp only [List.set]
  refine wpAnyH_take (i := 4) (oi := { dst := some 15, op := Go.Op.load 3 (Go.Operand.tmp 14), type := 3, pos := _, after := _, guard := _ }) (v := ?_) rfl (by kernel_rfl) (by kernel_rfl) (by kernel_rfl) (fun _ _ _ h => h) (Or.inl ⟨by rfl, ?_⟩) (by exact hHeld) ?_
  rotate_left
  · intro w hSw; obtain ⟨e6, e7, e10, e11⟩ := hSw.1.cells HR.out; go_simp; try with_reducible rfl
  try simp only [Act.put]
  try simp only [List.setIfInBounds_toArray]
  try simp only [List.set]
  refine wpAnyH_take (i := 6) (oi := { dst := some 17, op := Go.Op.fieldAddr 28 (Go.Operand.tmp 2) 4, type := 0, pos := _, after := _, guard := _ }) (v := ?_) rfl (by kernel_rfl) (by kernel_rfl) (by kernel_rfl) (fun _ _ _ h => h) (Or.inl ⟨by rfl, ?_⟩) (by exact hHeld) ?_
  rotate_left
  · intro w hSw; go_simp; try with_reducible rfl
  try simp only [Act.put]
  try simp only [List.setIfInBounds_toArray]
  try simp only [List.set]
  refine wpAnyH_take (i := 7) (oi := { dst := some 18, op := Go.Op.load 3 (Go.Operand.tmp 17), type := 3, pos := _, after := _, guard := _ }) (v := ?_) rfl (by kernel_rfl) (by kernel_rfl) (by kernel_rfl) (fun _ _ _ h => h) (Or.inl ⟨by rfl, ?_⟩) (by exact hHeld) ?_
  rotate_left
  · intro w hSw; obtain ⟨e6, e7, e10, e11⟩ := hSw.1.cells HR.out; go_simp; try with_reducible rfl
  try simp only [Act.put]
  try simp only [List.setIfInBounds_toArray]
  try simp only [List.set]
  refine wpAnyH_ready (rs := [2]) (by kernel_rfl) (by simp) ?_
  refine AllReadyH.cons (o := { dst := some 13, op := Go.Op.call { callee := Go.Callee.value (Go.Operand.func 44), args := #[Go.Operand.tmp 12], argTypes := #[3] }, type := 3, pos := _, after := _, guard := _ }) rfl (fun K hK => ?_) AllReadyH.nil
  go_simp
  go_at_call 44
  refine (HCA.out _).mono ?_
  rintro e w6 ⟨rfl, rfl⟩
  have hS2 := hHeld
  clear hHeld
  refine hK.out _ _ hS2 (fun hHeld => ?_)
  clear hK K hS2
  try simp only [Act.put]
  try simp only [List.setIfInBounds_toArray]
  try simp only [List.set]
  refine wpAnyH_ready (rs := [5]) (by kernel_rfl) (by simp) ?_
  refine AllReadyH.cons (o := { dst := some 16, op := Go.Op.call { callee := Go.Callee.value (Go.Operand.func 44), args := #[Go.Operand.tmp 15], argTypes := #[3] }, type := 3, pos := _, after := _, guard := _ }) rfl (fun K hK => ?_) AllReadyH.nil
  go_simp
  go_at_call 44
  refine (HCA.out _).mono ?_
  rintro e w6 ⟨rfl, rfl⟩
  have hS2 := hHeld
  clear hHeld
  refine hK.out _ _ hS2 (fun hHeld => ?_)
  clear hK K hS2
  try simp only [Act.put]
  try simp only [List.setIfInBounds_toArray]
  try simp only [List.set]
  refine wpAnyH_ready (rs := [8]) (by kernel_rfl) (by simp) ?_
  refine AllReadyH.cons (o := { dst := some 19, op := Go.Op.call { callee := Go.Callee.value (Go.Operand.func 44), args := #[Go.Operand.tmp 18], argTypes := #[3] }, type := 3, pos := _, after := _, guard := _ }) rfl (fun K hK => ?_) AllReadyH.nil
  go_simp
  go_at_call 44
  refine (HCC.out _).mono ?_
  rintro e w6 ⟨rfl, rfl⟩
  have hS2 := hHeld
  clear hHeld
  refine hK.out _ _ hS2 (fun hHeld => ?_)
  clear hK K hS2
  try simp only [Act.put]
  try simp only [List.setIfInBounds_toArray]
  try simp only [List.set]
  refine wpAnyH_take (i := 9) (oi := { dst := some 20, op := Go.Op.call { callee := Go.Callee.builtin Go.Builtin.max, args := #[Go.Operand.tmp 16, Go.Operand.tmp 19], argTypes := #[3, 3] }, type := 3, pos := _, after := _, guard := _ }) (v := ?_) rfl (by kernel_rfl) (by kernel_rfl) (by kernel_rfl) (fun _ _ _ h => h) (Or.inl ⟨by rfl, ?_⟩) (by exact hHeld) ?_
  rotate_left
  · intro w hSw; go_simp; try with_reducible rfl
  try simp only [Act.put]
  try simp only [List.setIfInBounds_toArray]
  try simp only [List.set]
  refine wpAnyH_take (i := 10) (oi := { dst := some 5, op := Go.Op.assign (Go.Operand.tmp 13), type := 3, pos := _, after := _, guard := _ }) (v := ?_) rfl (by kernel_rfl) (by kernel_rfl) (by kernel_rfl) (fun _ _ _ h => h) (Or.inl ⟨by rfl, ?_⟩) (by exact hHeld) ?_
  rotate_left
  · intro w hSw; go_simp; try with_reducible rfl
  try simp only [Act.put]
  try simp only [List.setIfInBounds_toArray]
  try simp only [List.set]
  refine wpAnyH_take (i := 11) (oi := { dst := some 6, op := Go.Op.assign (Go.Operand.tmp 20), type := 3, pos := _, after := _, guard := _ }) (v := ?_) rfl (by kernel_rfl) (by kernel_rfl) (by kernel_rfl) (fun _ _ _ h => h) (Or.inl ⟨by rfl, ?_⟩) (by exact hHeld) ?_
  rotate_left
  · intro w hSw; go_simp; try with_reducible rfl
  try simp only [Act.put]
  try simp only [List.setIfInBounds_toArray]
  try simp only [List.set]
  refine wpAnyH_done (by kernel_rfl) ?_ _
  have HB1 := Lib.hid hHeld.1
  have HRB1 := Lib.hid hHeld.2
  have HA1 := Lib.hid (HA.out.trans A5)
  clear hHeld A5 HB HRB HA
  rw [HM.out]
  generalize W.drew = W1 at HB1 HRB1 HA1 ⊢
  obtain ⟨e6, e7, e10, e11⟩ := HB1.out.cells HR.out
  go_wp2_with fail
  refine (HCN.out _).mono ?_
  rintro e w1 ⟨rfl, rfl⟩
  go_upto_region 3 with fail
  rw [HZ.out]
  go_wp2_with fail
  refine (HON.out _ HRB1.out).mono ?_
  rintro e w1 ⟨rfl, a1⟩
  have HB2 := Lib.hid (HB1.out.aft a1)
  have HRB2 := Lib.hid (HRB1.out.aft a1)
  have HA2 := Lib.hid (HA1.out.trans a1)
  clear a1 e6 e7 e10 e11 HB1 HRB1 HA1
  by_cases hn : n = 1
  · rw [decide_eq_true hn]
    have HT2 : Hid (max 0 sj = t) := Lib.hid (by rw [← HT.out, if_pos hn]; exact Int.max_comm _ _)
    clear hn HT
    go_wp2_with fail
    refine (HNB.out _).mono ?_
    rintro e w3 ⟨rfl, rfl⟩
    go_upto_region 7 with fail
    rw [HT2.out]
    obtain ⟨⟨b1, b2⟩, ⟨b3, b4⟩, ⟨b5, b6⟩, ⟨b7, b8, b9⟩, b10, b11, b12⟩ := HBD.out
    go_wp2_with (refine wpList_load_row rfl 28 (.tmp 2) rfl g rfl _ R (0, 0) _ HB2.out Try.underlying28 rfl HINF.out ?_)
    refine (HDD.out _ HRB2.out).mono ?_
    rintro e w3 ⟨rfl, a3⟩
    have HA3 := Lib.hid (HA2.out.trans a3)
    clear a3
    go_wp2_with fail
    all_goals
      go_ret
      exact ⟨ret_int (by have := HY.out; omega), HA3.out⟩
  · rw [decide_eq_false hn]
    have HT2 : Hid (0 = t) := Lib.hid (by rw [← HT.out, if_neg hn])
    clear hn HT
    obtain ⟨⟨b1, b2⟩, ⟨b3, b4⟩, ⟨b5, b6⟩, ⟨b7, b8, b9⟩, b10, b11, b12⟩ := HBD.out
    go_wp2_with (refine wpList_load_row rfl 28 (.tmp 2) rfl g rfl _ R (0, 0) _ HB2.out Try.underlying28 rfl HINF.out ?_)
    refine (HDD.out _ HRB2.out).mono ?_
    rintro e w3 ⟨rfl, a3⟩
    have HA3 := Lib.hid (HA2.out.trans a3)
    clear a3
    go_wp2_with fail
    all_goals
      go_ret
      exact ⟨ret_int (by have := HY.out; have := HT2.out; omega), HA3.out⟩

end Go.Proofs.Ytdcdckjdloddiaa
