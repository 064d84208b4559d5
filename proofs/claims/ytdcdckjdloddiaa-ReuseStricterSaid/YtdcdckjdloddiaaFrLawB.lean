/-
  Chapter 19's laws: of, entry, Small; an entry that came in, opened.
-/
import Derived.Test.YtdcdckjdloddiaaFrAge
import Derived.Test.YtdcdckjdloddiaaLight
import Derived.Test.YtdcdckjdloddiaaFlP
import Derived.Test.YtdcdckjdloddiaaArgFR
namespace Go.Proofs.Ytdcdckjdloddiaa
open Go.ChangeShapes Go.WideShapes Go.ChangeAt Go.RowKit
set_option linter.unusedVariables false

theorem of19_any (n v : ByteArray) (w : World) : Calls Try.prog 16 #[.string n, .string v] w fun e w' => e = .returned (.agg #[.string n, .string v]) ∧ Aft w w' := by
  have hset := heap_alloc_new w (.cells #[.string n, .string v] 38)
  have hsz : (Try.prog.info? 38).map (·.size) = some (#[Value.string n, Value.string v]).size := by kernel_rfl
  have HS := Lib.hid hset
  have HZ := Lib.hid hsz
  clear hset hsz
  go_enter Try.func16, Try.ntmps16
  go_wp2_with fail
  refine bodyPost_ret (results_cell_row rfl _ _ w.heap.size 38 #[.string n, .string v] (0, 0) _ rfl HS.out Try.underlying38 rfl HZ.out) rfl ?_
  exact ⟨rfl, (Aft.refl w).alloc _⟩
/-- An entry of which fields alone are told. -/
def entR (vs : Value) (ask ca : Int) : Array Value := #[.string ⟨#[]⟩, .string ⟨#[]⟩, .string ⟨#[]⟩, .string ⟨#[]⟩, .slice none 0 0, .int .i64 0, .int .i64 200, vs, .int .i64 0, .string ⟨#[]⟩, .int .i64 ask, .int .i64 ca]
theorem entR_ok (vs : Value) (ask ca : Int) : EntR (entR vs ask ca) 200 vs ask ca := ⟨rfl, rfl, rfl, rfl, rfl⟩
set_option maxHeartbeats 2000000 in
theorem entry19_any (a : Option Addr) (l c : Nat) (w : World) : Calls Try.prog 21 #[.slice a l c] w fun e w' => e = .returned (.agg (entR (.slice a l c) 0 0)) ∧ Aft w w' := by
  have hset := heap_alloc_new w (.cells #[.string ⟨#[]⟩, .string ⟨#[]⟩, .string ⟨#[]⟩, .string ⟨#[]⟩, .slice none 0 0, .int .i64 0, .int .i64 200, .slice a l c, .int .i64 0, .string ⟨#[]⟩, .int .i64 0, .int .i64 0] 28)
  have hsz : (Try.prog.info? 28).map (·.size) = some (#[Value.string ⟨#[]⟩, .string ⟨#[]⟩, .string ⟨#[]⟩, .string ⟨#[]⟩, .slice none 0 0, .int .i64 0, .int .i64 200, .slice a l c, .int .i64 0, .string ⟨#[]⟩, .int .i64 0, .int .i64 0]).size := by kernel_rfl
  have HS := Lib.hid hset
  have HZ := Lib.hid hsz
  clear hset hsz
  go_enter Try.func21, Try.ntmps21
  go_wp2_with fail
  refine bodyPost_ret (results_cell_row rfl _ _ w.heap.size 28 #[.string ⟨#[]⟩, .string ⟨#[]⟩, .string ⟨#[]⟩, .string ⟨#[]⟩, .slice none 0 0, .int .i64 0, .int .i64 200, .slice a l c, .int .i64 0, .string ⟨#[]⟩, .int .i64 0, .int .i64 0] (0, 0) _ rfl HS.out Try.underlying28 rfl HZ.out) rfl ?_
  exact ⟨rfl, (Aft.refl w).alloc _⟩

/-- An entry that came in. -/
structure EntA (R : Array Value) (st : Int) (vq vs : Value) (ask ca : Int) (bd : ByteArray) : Prop where
  r : EntR R st vs ask ca
  c4 : R[4]? = some vq
  c9 : R[9]? = some (.string bd)
  one : R.all (·.oneCell') = true
theorem EB.cellsA {w : World} {g : Nat} {R : Array Value} (h : EB w g R) {st : Int} {vq vs : Value} {ask ca : Int} {bd : ByteArray} (hR : EntA R st vq vs ask ca bd) :
    w.cell? ⟨g, 4, none⟩ = some vq ∧ w.cell? ⟨g, 7, none⟩ = some vs ∧ w.cell? ⟨g, 9, none⟩ = some (.string bd) := by
  unfold EB at h
  refine ⟨?_, ?_, ?_⟩ <;> rw [cell_of_row w g _ _ _ (0, 0) h]
  · exact hR.c4
  · exact hR.r.c7
  · exact hR.c9
def smallB (lq ls : List FieldL) (n : Nat) : Bool := decide (sumL lq ≤ 2000) && (decide (sumL ls ≤ 2000) && decide (n ≤ 2000))
set_option maxHeartbeats 2000000 in
theorem small_any (R : Array Value) (st : Int) (vq vs : Value) (ask ca : Int) (bd : ByteArray) (lq ls : List FieldL) (w : World) (hR : EntA R st vq vs ask ca bd) (hq : RbF w vq lq) (hs : RbF w vs ls) (bq : FieldsLim lq) (bs : FieldsLim ls) :
    Calls Try.prog 10 #[.agg R] w fun e w' => e = .returned (.bool (smallB lq ls bd.size)) ∧ Aft w w' := by
  have HL1 := Lib.hid (fun w h => light_any vq lq w h bq)
  have HL2 := Lib.hid (fun w h => light_any vs ls w h bs)
  have hA : Aft w (w.alloc (.cells R 28)) := (Aft.refl w).alloc _
  have hB : EB (w.alloc (.cells R 28)) w.heap.size R := heap_alloc_new w _
  have HR := Lib.hid hR
  have HQ := Lib.hid (hq.aft hA)
  have HS := Lib.hid (hs.aft hA)
  have HA := Lib.hid hA
  have HB := Lib.hid hB
  obtain ⟨aq, cq, bbq, oq, rfl, -⟩ := hq.open
  obtain ⟨as_, cs, bbs, os, rfl, -⟩ := hs.open
  unfold smallB
  generalize decide (sumL lq ≤ 2000) = b1 at HL1 ⊢
  generalize decide (sumL ls ≤ 2000) = b2 at HL2 ⊢
  clear hA hB hR hq hs bq bs
  go_enter Try.func10, Try.ntmps10
  go_upto_region 1 with fail
  generalize w.heap.size = g at HB ⊢
  generalize w.alloc (.cells R 28) = W at HA HB HQ HS ⊢
  obtain ⟨c4, c7, c9⟩ := HB.out.cellsA HR.out
  go_wp2_with fail
  refine (HL1.out _ HQ.out).mono ?_
  rintro e w1 ⟨rfl, a1⟩
  have HB1 := Lib.hid (HB.out.aft a1)
  have HS1 := Lib.hid (HS.out.aft a1)
  have HA1 := Lib.hid (HA.out.trans a1)
  clear a1 c4 c7 c9
  obtain ⟨c4, c7, c9⟩ := HB1.out.cellsA HR.out
  cases b1
  · go_wp2_with fail
    go_ret
    exact ⟨rfl, HA1.out⟩
  · go_wp2_with fail
    refine (HL2.out _ HS1.out).mono ?_
    rintro e w2 ⟨rfl, a2⟩
    have HB2 := Lib.hid (HB1.out.aft a2)
    have HA2 := Lib.hid (HA1.out.trans a2)
    clear a2 c4 c7 c9
    obtain ⟨c4, c7, c9⟩ := HB2.out.cellsA HR.out
    cases b2
    · go_wp2_with fail
      go_ret
      exact ⟨rfl, HA2.out⟩
    · go_wp2_with fail
      go_ret
      refine ⟨ret_bool ?_, HA2.out⟩
      simp
      omega

set_option maxRecDepth 100000 in
set_option maxHeartbeats 2000000 in
theorem open_entR {H : Type} {enc : TypeId × Value → H} {W : World} {base : Nat} {v : Value} {d : DataW H} {p : List MemPlace} (hval : Value.okWide Try.prog W .any base 28 v) (h : DataW.Trod enc Try.prog W 0 (fun _ => true) true 28 v d p) (hw : ∀ n ∈ d.weights Try.prog 28, n ≤ reachBytes) :
    ∃ (R : Array Value) (st : Int) (vq vs : Value) (ask ca : Int) (bd : ByteArray) (lq ls : List FieldL), v = .agg R ∧ EntA R st vq vs ask ca bd ∧ RbF W vq lq ∧ RbF W vs ls ∧ FieldsLim lq ∧ FieldsLim ls ∧ bd.size ≤ maxLen := by
  obtain ⟨fs, hs⟩ : ∃ fs, Try.prog.underlying 28 = some (.struct fs) := ⟨_, Try.underlying28⟩
  obtain ⟨cs, rfl, hsz⟩ := okWide_struct hs hval
  have hC : Try.prog.cellsOf 28 = 12 := by kernel_rfl
  have hC1 : Try.prog.cellsOf 24 = 6 := by kernel_rfl
  have hC2 : Try.prog.cellsOf 26 = 3 := by kernel_rfl
  have hC3 : Try.prog.cellsOf 9 = 1 := by kernel_rfl
  have hC4 : Try.prog.cellsOf 3 = 1 := by kernel_rfl
  have hC5 : Try.prog.cellsOf 22 = 1 := by kernel_rfl
  have hrow : Row.okWide Try.prog W .any base 28 cs := by
    simp only [Value.okWide, hs] at hval
    obtain ⟨cs', h1, _, h3⟩ := hval
    injection h1 with h1
    rw [h1]; exact h3
  obtain ⟨fuel, hf⟩ := h
  obtain ⟨c0, c1, c2, c3, c4, c5, c6, c7, c8, c9, c10, c11, rfl⟩ : ∃ c0 c1 c2 c3 c4 c5 c6 c7 c8 c9 c10 c11, cs = #[c0, c1, c2, c3, c4, c5, c6, c7, c8, c9, c10, c11] := by
    rw [hC] at hsz
    obtain ⟨l⟩ := cs
    match l, hsz with
    | [c0, c1, c2, c3, c4, c5, c6, c7, c8, c9, c10, c11], _ => exact ⟨c0, c1, c2, c3, c4, c5, c6, c7, c8, c9, c10, c11, rfl⟩
  have h4 := slice_cell Try.underlying22 (row_cell [9, 9, 9, 9, 22, 3, 3, 22, 3, 9, 3, 3] (by kernel_rfl) hrow (i := 4) rfl rfl)
  have h7 := slice_cell Try.underlying22 (row_cell [9, 9, 9, 9, 22, 3, 3, 22, 3, 9, 3, 3] (by kernel_rfl) hrow (i := 7) rfl rfl)
  obtain ⟨xs, n, _, hx, hl, hlen, hfl⟩ := DataW.trod_struct Try.underlying28 hf
  clear hs hval hrow hsz
  have e0 := hfl 0 _ rfl
  have e1 := hfl 1 _ rfl
  have e2 := hfl 2 _ rfl
  have e3 := hfl 3 _ rfl
  have e4 := hfl 4 _ rfl
  clear hfl hl
  injection hx with hx _
  match xs, hlen with
  | [y0, y1, y2, y3, y4], _ =>
    simp [Value.cells, hC1, hC2, hC3, hC4] at e0 e1 e2 e3 e4
    obtain ⟨s9, a9, -, z9⟩ := DataW.trod_string Try.underlying9 e2
    obtain ⟨n10, a10, -, z10⟩ := DataW.trod_int Try.underlying3 e3
    obtain ⟨n11, a11, -, z11⟩ := DataW.trod_int Try.underlying3 e4
    obtain ⟨us, m, _, hu, _, hul, hul2⟩ := DataW.trod_struct Try.underlying24 e0
    have f0 := hul2 0 _ rfl
    have f1 := hul2 1 _ rfl
    have f2 := hul2 2 _ rfl
    have f3 := hul2 3 _ rfl
    have f4 := hul2 4 _ rfl
    have f5 := hul2 5 _ rfl
    clear hul2
    obtain ⟨ts, k, _, ht, _, htl, htl2⟩ := DataW.trod_struct Try.underlying26 e1
    have g0 := htl2 0 _ rfl
    have g1 := htl2 1 _ rfl
    have g2 := htl2 2 _ rfl
    clear htl2
    match us, hul with
    | [u0, u1, u2, u3, u4, u5], _ =>
      match ts, htl with
      | [t0, t1, t2], _ =>
        simp [hC3, hC4, hC5] at f0 f1 f2 f3 f4 f5 g0 g1 g2
        obtain ⟨n6, a6, -, z6⟩ := DataW.trod_int Try.underlying3 g0
        rw [hx] at hw
        have hwe := wt_struct Try.underlying28 hw
        have hwq := wt_each (j := 0) hwe rfl rfl
        have hws := wt_each (j := 1) hwe rfl rfl
        rw [hu] at hwq
        rw [ht] at hws
        obtain ⟨lq, hrq, hbq⟩ := open_fieldsR h4 ⟨_, by
          obtain ⟨a, b, c, rfl⟩ := okWide_slice Try.underlying22 h4
          exact f4⟩ (wt_each (j := 4) (wt_struct Try.underlying24 hwq) rfl rfl)
        obtain ⟨ls, hrs, hbs⟩ := open_fieldsR h7 ⟨_, by
          obtain ⟨a, b, c, rfl⟩ := okWide_slice Try.underlying22 h7
          exact g1⟩ (wt_each (j := 1) (wt_struct Try.underlying26 hws) rfl rfl)
        obtain ⟨s0, a0, -, -⟩ := DataW.trod_string Try.underlying9 f0
        obtain ⟨s1, a1, -, -⟩ := DataW.trod_string Try.underlying9 f1
        obtain ⟨s2, a2, -, -⟩ := DataW.trod_string Try.underlying9 f2
        obtain ⟨s3, a3, -, -⟩ := DataW.trod_string Try.underlying9 f3
        obtain ⟨n5, a5, -, -⟩ := DataW.trod_int Try.underlying3 f5
        obtain ⟨n8, a8, -, -⟩ := DataW.trod_int Try.underlying3 g2
        injection a0 with a0 _
        injection a1 with a1 _
        injection a2 with a2 _
        injection a3 with a3 _
        injection a5 with a5 _
        injection a8 with a8 _
        injection a6 with a6 _
        injection a9 with a9 _
        injection a10 with a10 _
        injection a11 with a11 _
        subst a0 a1 a2 a3 a5 a8 a6 a9 a10 a11
        have hone : (#[Value.string s0, .string s1, .string s2, .string s3, c4, .int .i64 n5, .int .i64 n6, c7, .int .i64 n8, .string s9, .int .i64 n10, .int .i64 n11] : Array Value).all (·.oneCell') = true := by
          obtain ⟨_, _, _, rfl⟩ := okWide_slice Try.underlying22 h4
          obtain ⟨_, _, _, rfl⟩ := okWide_slice Try.underlying22 h7
          simp [Value.oneCell']
        exact ⟨_, n6, c4, c7, n10, n11, s9, lq, ls, rfl, ⟨⟨rfl, rfl, rfl, rfl, rfl⟩, rfl, rfl, hone⟩, hrq, hrs, hbq, hbs, z9⟩

end Go.Proofs.Ytdcdckjdloddiaa
