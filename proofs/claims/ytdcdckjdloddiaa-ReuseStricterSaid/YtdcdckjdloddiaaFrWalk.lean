/-
  The walks of fresh: clean, share, clamp, date, dated, told.
-/
import Derived.Test.YtdcdckjdloddiaaFrPlain
import Derived.Test.YtdcdckjdloddiaaDayRead
import Derived.Test.YtdcdckjdloddiaaCtlOf
import Derived.Test.YtdcdckjdloddiaaCtlLen
import Derived.Deep.RegionHeld
import Derived.Laws.Rows
import Derived.WalkLawsBesides
namespace Go.Proofs.Ytdcdckjdloddiaa
open Go.RowKit
set_option linter.unusedVariables false

theorem clean_any (x : Nat) (w : World) : Calls Try.prog 59 #[.float .f64 x] w fun e w' => e = .returned (.float .f64 (cleanB x)) ∧ w = w' := by
  unfold cleanB oneB
  by_cases h1 : (FloatKind.f64.format.order x 4607182418800017408 == some .gt) = true
  · have e1 : (if (Ieee.double.order x 4607182418800017408 == some .gt) = true then 4607182418800017408 else if (Ieee.double.order x 0 == some .gt) = true then x else 0) = 4607182418800017408 := if_pos h1
    rw [e1]
    clear e1
    go_enter Try.func59, Try.ntmps59
    go_wp2_with fail
    go_ret
    exact ⟨rfl, rfl⟩
  · have h1' : (FloatKind.f64.format.order x 4607182418800017408 == some .gt) = false := by simpa using h1
    by_cases h2 : (FloatKind.f64.format.order x 0 == some .gt) = true
    · have e1 : (if (Ieee.double.order x 4607182418800017408 == some .gt) = true then 4607182418800017408 else if (Ieee.double.order x 0 == some .gt) = true then x else 0) = x := (if_neg h1).trans (if_pos h2)
      rw [e1]
      clear e1 h1
      go_enter Try.func59, Try.ntmps59
      go_wp2_with fail
      go_ret
      exact ⟨rfl, rfl⟩
    · have h2' : (FloatKind.f64.format.order x 0 == some .gt) = false := by simpa using h2
      have e1 : (if (Ieee.double.order x 4607182418800017408 == some .gt) = true then 4607182418800017408 else if (Ieee.double.order x 0 == some .gt) = true then x else 0) = 0 := (if_neg h1).trans (if_neg h2)
      rw [e1]
      clear e1 h1 h2
      go_enter Try.func59, Try.ntmps59
      go_wp2_with fail
      go_ret
      exact ⟨rfl, rfl⟩
set_option maxRecDepth 10000 in
theorem share_any19 (n : Int) (x : Nat) (h0 : 0 ≤ n) (h1 : n ≤ 2147483647) (w : World) : Calls Try.prog 38 #[.int .i64 n, .float .f64 x] w fun e w' => e = .returned (.int .i64 (shareI n x)) ∧ w = w' := by
  obtain ⟨e1, e2, -⟩ := share_spec n x h0 h1
  have HCL := Lib.hid (fun w => clean_any x w)
  have hmx : max n 0 = n := by omega
  have hmn : min n 2147483647 = n := by omega
  have hmul : ∀ w : World, (binOp .mul 29 (.float .f64 (floatOfInt .f64 n)) (.float .f64 (cleanB x))).run Try.prog w = .ok (.float .f64 (shareR n x)) w := fun w => run_float_arith w .mul _ .f64 _ _ _ e1
  have hcv : ∀ w : World, (convert 29 3 (.float .f64 (shareR n x))).run Try.prog w = .ok (.int .i64 (shareI n x)) w := fun w => run_convert_float_int w _ _ .f64 .i64 _ _ rfl rfl e2
  generalize shareR n x = r at hmul hcv
  generalize shareI n x = k at hcv ⊢
  generalize cleanB x = c at hmul HCL
  clear e1 e2 h0 h1
  go_enter Try.func38, Try.ntmps38
  go_wp2_with fail
  refine (HCL.out _).mono ?_
  rintro e w1 ⟨rfl, rfl⟩
  go_wp2_with fail
  go_ret
  exact ⟨rfl, rfl⟩
theorem clamp_any (n : Int) (w : World) : Calls Try.prog 32 #[.int .i64 n] w fun e w' => e = .returned (.int .i64 (clampI n)) ∧ w = w' := by
  unfold clampI
  go_enter Try.func32, Try.ntmps32
  go_wp2_with fail
  go_ret
  exact ⟨rfl, rfl⟩

structure FOk (l : List FieldL) : Prop where
  len : l.length ≤ 1000000
  join : ∀ name, (Lib.join (valsF name l) [44, 32]).length ≤ 100000000
theorem date_any (v : Value) (l : List FieldL) (name : ByteArray) (w : World) (hr : RbF w v l) (hk : FOk l) :
    Calls Try.prog 36 #[v, .string name] w fun e w' => e = .returned (.tuple #[.int .i64 (dF name.data.toList l).1, .bool (dF name.data.toList l).2, .int .i64 ((valsF name.data.toList l).length : Int)]) ∧ Aft w w' := by
  have HAL := Lib.hid (all_any v l name w hr hk.len (hk.join _))
  obtain ⟨J, hJ⟩ : ∃ J : ByteArray, (⟨(Lib.join (valsF name.data.toList l) [44, 32]).toArray⟩ : ByteArray) = J := ⟨_, rfl⟩
  have hJl : J.data.toList = Lib.join (valsF name.data.toList l) [44, 32] := by rw [← hJ]
  have hJz : J.size ≤ maxLen := by
    rw [← size_len, hJl]
    have := hk.join name.data.toList
    unfold maxLen
    omega
  rw [hJ] at HAL
  have HRD := Lib.hid (fun w => read_any J w hJz)
  unfold dF
  rw [← hJl]
  generalize (valsF name.data.toList l).length = n at HAL ⊢
  generalize Dp.readF J.data.toList = q at HRD ⊢
  obtain ⟨q1, q2⟩ := q
  clear hJ hJl hJz hr hk
  by_cases h1 : n = 1
  · subst h1
    go_enter Try.func36, Try.ntmps36
    go_wp2_with fail
    refine HAL.out.mono ?_
    rintro e w1 ⟨rfl, a1⟩
    go_wp2_with fail
    refine (HRD.out _).mono ?_
    rintro e w2 ⟨rfl, a2⟩
    go_wp2_with fail
    refine bodyPost_ret (v := .tuple #[.int .i64 q1, .bool q2, .int .i64 1]) (by simp [results, Try.results36, go_sem]) rfl ?_
    exact ⟨rfl, a1.trans a2⟩
  · have h2 : ((n : Int) != 1) = true := by simp; omega
    rw [if_neg h1]
    clear h1
    go_enter Try.func36, Try.ntmps36
    go_wp2_with fail
    refine HAL.out.mono ?_
    rintro e w1 ⟨rfl, a1⟩
    go_wp2_with fail
    refine bodyPost_ret (v := .tuple #[.int .i64 0, .bool false, .int .i64 (n : Int)]) (by simp [results, Try.results36, go_sem]) rfl ?_
    exact ⟨rfl, a1⟩

/-- An entry's cells. -/
def EB (w : World) (g : Nat) (R : Array Value) : Prop := w.heap[g]? = some (.cells R 28 (0, 0))
theorem EB.lt {w : World} {g : Nat} {R : Array Value} (h : EB w g R) : g < w.heap.size := by
  rcases Nat.lt_or_ge g w.heap.size with h1 | h1
  · exact h1
  · unfold EB at h; rw [Array.getElem?_eq_none h1] at h; cases h
theorem EB.aft {w w' : World} {g : Nat} {R : Array Value} (h : EB w g R) (ha : Aft w w') : EB w' g R := by
  have hl := h.lt
  unfold EB at h ⊢
  rw [Below.block ha.to g hl]
  exact h
structure EntR (R : Array Value) (st : Int) (vs : Value) (ask ca : Int) : Prop where
  size : R.size = 12
  c6 : R[6]? = some (.int .i64 st)
  c7 : R[7]? = some vs
  c10 : R[10]? = some (.int .i64 ask)
  c11 : R[11]? = some (.int .i64 ca)
theorem EB.cells {w : World} {g : Nat} {R : Array Value} (h : EB w g R) {st : Int} {vs : Value} {ask ca : Int} (hR : EntR R st vs ask ca) :
    w.cell? ⟨g, 6, none⟩ = some (.int .i64 st) ∧ w.cell? ⟨g, 7, none⟩ = some vs ∧ w.cell? ⟨g, 10, none⟩ = some (.int .i64 ask) ∧ w.cell? ⟨g, 11, none⟩ = some (.int .i64 ca) := by
  unfold EB at h
  refine ⟨?_, ?_, ?_, ?_⟩ <;> rw [cell_of_row w g _ _ _ (0, 0) h]
  · exact hR.c6
  · exact hR.c7
  · exact hR.c10
  · exact hR.c11
theorem EntR.info {R : Array Value} {st : Int} {vs : Value} {ask ca : Int} (hR : EntR R st vs ask ca) : (Try.prog.info? 28).map (·.size) = some R.size := by
  rw [hR.size]
  kernel_rfl

theorem dated_any (R : Array Value) (st : Int) (vs : Value) (ask ca : Int) (l : List FieldL) (w : World) (hR : EntR R st vs ask ca) (hr : RbF w vs l) (hk : FOk l) :
    Calls Try.prog 33 #[.agg R] w fun e w' => e = .returned (.int .i64 (datedF l ca)) ∧ Aft w w' := by
  have HDT := Lib.hid (fun w h => date_any vs l ⟨nDate.toArray⟩ w h hk)
  have en : (⟨nDate.toArray⟩ : ByteArray).data.toList = nDate := rfl
  rw [en] at HDT
  have HCP := Lib.hid (fun w => clamp_any ca w)
  have hA : Aft w (w.alloc (.cells R 28)) := (Aft.refl w).alloc _
  have hB : EB (w.alloc (.cells R 28)) w.heap.size R := heap_alloc_new w _
  have HR := Lib.hid hR
  have HRB := Lib.hid (hr.aft hA)
  have HA := Lib.hid hA
  have HB := Lib.hid hB
  obtain ⟨aq, cq, bq, oq, rfl, -⟩ := hr.open
  unfold datedF
  generalize dF nDate l = d at HDT ⊢
  obtain ⟨d1, d2⟩ := d
  generalize (valsF nDate l).length = nv at HDT
  clear hA hB hr hR hk en
  go_enter Try.func33, Try.ntmps33
  go_upto_region 1 with fail
  generalize w.heap.size = g at HB ⊢
  generalize w.alloc (.cells R 28) = W at HA HB HRB ⊢
  obtain ⟨c6, c7, c10, c11⟩ := HB.out.cells HR.out
  go_wp2_with fail
  refine (HDT.out _ HRB.out).mono ?_
  rintro e w1 ⟨rfl, a1⟩
  have HB1 := Lib.hid (HB.out.aft a1)
  have HA1 := Lib.hid (HA.out.trans a1)
  clear a1 c6 c7 c10 c11
  obtain ⟨c6, c7, c10, c11⟩ := HB1.out.cells HR.out
  cases d2
  · go_wp2_with fail
    refine (HCP.out _).mono ?_
    rintro e w2 ⟨rfl, rfl⟩
    go_wp2_with fail
    go_ret
    exact ⟨rfl, HA1.out⟩
  · go_wp2_with fail
    go_ret
    exact ⟨rfl, HA1.out⟩

theorem told_any (v : Value) (l : List FieldL) (w : World) (hr : RbF w v l) (hk : FOk l) :
    Calls Try.prog 34 #[v] w fun e w' => e = .returned (.int .i64 (toldF l)) ∧ Aft w w' := by
  have HAL := Lib.hid (all_any v l ⟨nAge.toArray⟩ w hr hk.len (hk.join _))
  have en : (⟨nAge.toArray⟩ : ByteArray).data.toList = nAge := rfl
  rw [en] at HAL
  obtain ⟨J, hJ⟩ : ∃ J : ByteArray, (⟨(Lib.join (valsF nAge l) [44, 32]).toArray⟩ : ByteArray) = J := ⟨_, rfl⟩
  have hJl : J.data.toList = Lib.join (valsF nAge l) [44, 32] := by rw [← hJ]
  have hJz : J.size ≤ maxLen := by
    rw [← size_len, hJl]
    have := hk.join nAge
    unfold maxLen
    omega
  rw [hJ] at HAL
  have HSC := Lib.hid (fun w => seconds_any J w hJz)
  unfold toldF
  rw [← hJl]
  generalize (valsF nAge l).length = n at HAL ⊢
  generalize secF J.data.toList = q at HSC ⊢
  clear hJ hJl hJz hr hk en
  by_cases h1 : n = 1
  · subst h1
    go_enter Try.func34, Try.ntmps34
    go_wp2_with fail
    refine HAL.out.mono ?_
    rintro e w1 ⟨rfl, a1⟩
    go_wp2_with fail
    refine (HSC.out _).mono ?_
    rintro e w2 ⟨rfl, rfl⟩
    go_wp2_with fail
    go_ret
    exact ⟨rfl, a1⟩
  · have h2 : ((n : Int) != 1) = true := by simp; omega
    rw [if_neg h1]
    clear h1
    go_enter Try.func34, Try.ntmps34
    go_wp2_with fail
    refine HAL.out.mono ?_
    rintro e w1 ⟨rfl, a1⟩
    go_wp2_with fail
    go_ret
    exact ⟨rfl, a1⟩

end Go.Proofs.Ytdcdckjdloddiaa
