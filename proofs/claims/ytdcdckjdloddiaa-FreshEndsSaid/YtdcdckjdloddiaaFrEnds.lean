/-
  FreshEnds.
-/
import Derived.Test.YtdcdckjdloddiaaFrGrows
namespace Go.Proofs.Ytdcdckjdloddiaa
open Go.ChangeShapes Go.WideShapes Go.ChangeAt Go.RowKit
set_option linter.unusedVariables false

def lEnd : List FieldL := [([99, 97, 99, 104, 101, 45, 99, 111, 110, 116, 114, 111, 108], [109, 97, 120, 45, 97, 103, 101, 61, 57, 57, 57, 57, 57, 57, 57, 57, 57, 57, 57, 57, 57, 57, 57, 57, 57, 57, 57, 57, 57, 57]), ([97, 103, 101], [57, 57, 57, 57, 57, 57, 57, 57, 57, 57, 57, 57, 57, 57, 57, 57, 57, 57, 57, 57])]
theorem ends_life (ca : Int) : lifeF 200 lEnd ca 0 = 2147483647 := by
  have h1 : (ctlF lEnd).sh = -1 := by decide +kernel
  have h2 : (ctlF lEnd).ma = 2147483647 := by decide +kernel
  unfold lifeF lifeB
  rw [h1, h2, if_neg (by decide), if_pos (by decide)]
theorem ends_age (n now : Int) : ageF lEnd n n now = 2147483647 := by
  have h1 : (dF nDate lEnd).2 = false := by decide +kernel
  have h2 : toldF lEnd = 2147483647 := by decide +kernel
  unfold ageF datedF
  rw [h1, h2]
  unfold ageB clampI
  simp only [Bool.false_eq_true, if_false]
  omega

set_option maxHeartbeats 8000000 in
set_option maxRecDepth 100000 in
theorem freshends_any (R : Array Value) (st : Int) (vq vs : Value) (ask ca : Int) (bd : ByteArray) (lq ls : List FieldL) (now n : Int) (w : World) (hR : EntA R st vq vs ask ca bd) (hq : RbF w vq lq) (hs : RbF w vs ls) (bq : FieldsLim lq) (bs : FieldsLim ls)
    (n0 : 0 ≤ n) (n1 : n ≤ 65535) :
    Calls Try.prog 5 #[.agg R, .int .i64 now, .int .u16 n] w fun e w' => e = .returned (.bool true) ∧ Aft w w' := by
  have HSM := Lib.hid (fun w h1 h2 => small_any R st vq vs ask ca bd lq ls w hR h1 h2 bq bs)
  have hA : Aft w (w.alloc (.cells R 28)) := (Aft.refl w).alloc _
  have hB : EB (w.alloc (.cells R 28)) w.heap.size R := heap_alloc_new w _
  have HR := Lib.hid hR.r
  have HINF := Lib.hid hR.r.info
  have HQ := Lib.hid (hq.aft hA)
  have HS := Lib.hid (hs.aft hA)
  have HA := Lib.hid hA
  have HB := Lib.hid hB
  obtain ⟨sm, hsm⟩ : ∃ sm, smallB lq ls bd.size = sm := ⟨_, rfl⟩
  rw [hsm] at HSM
  have HX := Lib.hid hsm
  clear hA hB hR hq hs bq bs hsm
  go_enter Try.func5, Try.ntmps5
  go_upto_region 1 with fail
  generalize w.heap.size = g at HB ⊢
  generalize w.alloc (.cells R 28) = W at HA HB HQ HS ⊢
  go_wp2_with (refine wpList_load_row_w rfl 28 (.tmp 3) rfl g rfl _ R (0, 0) _ HB.out Try.underlying28 rfl HINF.out ?_)
  refine (HSM.out _ HQ.out HS.out).mono ?_
  rintro e w1 ⟨rfl, a1⟩
  have HB1 := Lib.hid (HB.out.aft a1)
  have HS1 := Lib.hid (HS.out.aft a1)
  have HA1 := Lib.hid (HA.out.trans a1)
  clear a1 HB HQ HS HA
  cases sm
  · go_wp2_with fail
    refine (freshruns_any _).mono ?_
    rintro e w2 ⟨rfl, a2⟩
    have HA2 := Lib.hid (HA1.out.trans a2)
    clear a2
    go_wp2_with fail
    go_ret
    exact ⟨rfl, HA2.out⟩
  have hfk := fok_of_small HX.out
  have HLE := Lib.hid (fun w h => left_any R st vs ask ca now 4607182418800017408 ls w HR.out h hfk)
  have g5 := ageF_bd ls ask ca now
  have g6 := lifeF_bd st ls ca 4607182418800017408
  obtain ⟨lf, hlf⟩ : ∃ lf, lifeF st ls ca 4607182418800017408 - ageF ls ask ca now = lf := ⟨_, rfl⟩
  have g7 : lf ≤ 2147483647 := by omega
  have g8 : -2147483647 ≤ lf := by omega
  rw [hlf] at HLE
  clear hfk hlf g5 g6
  go_wp2_with fail
  refine (of19_any _ _ _).mono ?_
  rintro e w2 ⟨rfl, a2⟩
  go_wp2_with fail
  refine (of19_any _ _ _).mono ?_
  rintro e w3 ⟨rfl, a3⟩
  go_wp2_with fail
  refine (entry19_any _ _ _ _).mono ?_
  rintro e w4 ⟨rfl, a4⟩
  have HRX : Hid (RbF w4 (.slice (some ⟨w3.heap.size, 0, none⟩) 2 2) lEnd) := Lib.hid ((rbF_two19 _ _ _ _ w3).aft a4)
  have A4 := ((a2.trans a3).alloc (.cells #[.string ⟨#[99, 97, 99, 104, 101, 45, 99, 111, 110, 116, 114, 111, 108]⟩, .string ⟨#[109, 97, 120, 45, 97, 103, 101, 61, 57, 57, 57, 57, 57, 57, 57, 57, 57, 57, 57, 57, 57, 57, 57, 57, 57, 57, 57, 57, 57, 57]⟩, .string ⟨#[97, 103, 101]⟩, .string ⟨#[57, 57, 57, 57, 57, 57, 57, 57, 57, 57, 57, 57, 57, 57, 57, 57, 57, 57, 57, 57]⟩] 38)).trans a4
  have HB4 := Lib.hid (HB1.out.aft A4)
  have HS4 := Lib.hid (HS1.out.aft A4)
  have HA4 := Lib.hid (HA1.out.trans A4)
  clear a2 a3 a4 A4 HB1 HS1 HA1
  unfold entR
  go_upto_region 5 with fail
  have a5 := (Aft.refl w4).alloc (.cells (entR (.slice (some ⟨w3.heap.size, 0, none⟩) 2 2) n n) 28)
  have HEX : Hid (EB (w4.alloc (.cells (entR (.slice (some ⟨w3.heap.size, 0, none⟩) 2 2) n n) 28)) w4.heap.size (entR (.slice (some ⟨w3.heap.size, 0, none⟩) 2 2) n n)) := Lib.hid (heap_alloc_new w4 _)
  have HRX5 := Lib.hid (HRX.out.aft a5)
  have HB5 := Lib.hid (HB4.out.aft a5)
  have HS5 := Lib.hid (HS4.out.aft a5)
  have HA5 := Lib.hid (HA4.out.trans a5)
  obtain ⟨W5, hW⟩ : ∃ W5, w4.alloc (.cells (entR (.slice (some ⟨w3.heap.size, 0, none⟩) 2 2) n n) 28) = W5 := ⟨_, rfl⟩
  rw [hW] at HEX HRX5 HB5 HS5 HA5
  rw [show w4.alloc (.cells #[.string ⟨#[]⟩, .string ⟨#[]⟩, .string ⟨#[]⟩, .string ⟨#[]⟩, .slice none 0 0, .int .i64 0, .int .i64 200, .slice (some ⟨w3.heap.size, 0, none⟩) 2 2, .int .i64 0, .string ⟨#[]⟩, .int .i64 n, .int .i64 n] 28) = W5 from hW]
  clear hW a5 HRX HB4 HS4 HA4
  have HIX := Lib.hid (entR_ok (.slice (some ⟨w3.heap.size, 0, none⟩) 2 2) n n).info
  generalize w3.heap.size = g1 at HEX HRX5 HIX ⊢
  generalize w4.heap.size = gx at HEX ⊢
  go_wp2_with (refine wpList_load_row_w rfl 28 (.tmp 3) rfl g rfl _ R (0, 0) _ HB5.out Try.underlying28 rfl HINF.out ?_)
  refine (HLE.out _ HS5.out).mono ?_
  rintro e w6 ⟨rfl, a6⟩
  have HEX6 := Lib.hid (HEX.out.aft a6)
  have HRX6 := Lib.hid (HRX5.out.aft a6)
  have HA6 := Lib.hid (HA5.out.trans a6)
  clear a6 HEX HRX5 HB5 HS5 HA5
  go_wp2_with (refine wpList_load_row_w rfl 28 (.tmp 7) rfl gx rfl _ (entR (.slice (some ⟨g1, 0, none⟩) 2 2) n n) (0, 0) _ HEX6.out Try.underlying28 rfl HIX.out ?_)
  refine (life_of _ n n _ 0 _ 2147483647 HRX6.out (fok_small (by decide) (by decide +kernel)) (ends_life n)).mono ?_
  rintro e w7 ⟨rfl, a7⟩
  have HEX7 := Lib.hid (HEX6.out.aft a7)
  have HRX7 := Lib.hid (HRX6.out.aft a7)
  have HA7 := Lib.hid (HA6.out.trans a7)
  clear a7 HEX6 HRX6 HA6
  go_wp2_with (refine wpList_load_row_w rfl 28 (.tmp 7) rfl gx rfl _ (entR (.slice (some ⟨g1, 0, none⟩) 2 2) n n) (0, 0) _ HEX7.out Try.underlying28 rfl HIX.out ?_)
  refine (age_of _ n n n _ _ 2147483647 HRX7.out (fok_small (by decide) (by decide +kernel)) (ends_age n n)).mono ?_
  rintro e w8 ⟨rfl, a8⟩
  have HEX8 := Lib.hid (HEX7.out.aft a8)
  have HRX8 := Lib.hid (HRX7.out.aft a8)
  have HA8 := Lib.hid (HA7.out.trans a8)
  clear a8 HEX7 HRX7 HA7
  go_wp2_with (refine wpList_load_row_w rfl 28 (.tmp 7) rfl gx rfl _ (entR (.slice (some ⟨g1, 0, none⟩) 2 2) n n) (0, 0) _ HEX8.out Try.underlying28 rfl HIX.out ?_)
  refine (age_of _ n n 4611686018427387904 _ _ 2147483647 HRX8.out (fok_small (by decide) (by decide +kernel)) (ends_age n _)).mono ?_
  rintro e w9 ⟨rfl, a9⟩
  have HA9 := Lib.hid (HA8.out.trans a9)
  clear a9 HEX8 HRX8 HA8
  go_wp2_with fail
  refine (freshruns_any _).mono ?_
  rintro e w10 ⟨rfl, a10⟩
  have HA10 := Lib.hid (HA9.out.trans a10)
  clear a10
  go_wp2_with fail
  go_ret
  exact ⟨rfl, HA10.out⟩

set_option maxRecDepth 100000 in
theorem walkFreshEnds (w : World) (hsh : w.ShapedOpen Try.prog) {H : Type} {enc : TypeId × Value → H} {base : Nat} {v0 : Value} {d0 : DataW H} {p0 : List MemPlace}
    (hval0 : Value.okWide Try.prog w .any base 28 v0) (k0 : DataW.Trod enc Try.prog w 0 (fun _ => true) true 28 v0 d0 p0)
    (a1 : Int) (w1 : (Lit.int .i64 a1).wf = true) (a2 : Int) (w2 : (Lit.int .u16 a2).wf = true) (hk : (DataW.weightsEach Try.prog [28, 3, 43] [(d0 : DataW H), .lit (.int .i64 a1), .lit (.int .u16 a2)]).all (· ≤ reachBytes) = true) :
    Calls Try.prog 5 #[v0, .int .i64 a1, .int .u16 a2] w fun e w' => e = .returned (.bool true) ∧ Aft w w' := by
  obtain ⟨R, st, vq, vs, ask, ca, bd, lq, ls, rfl, hR, hq, hs, bq, bs, hz⟩ := open_entR hval0 k0 (wt_at hk (j := 0) rfl rfl)
  have hb2 : 0 ≤ a2 ∧ a2 ≤ 65535 := by
    simp only [Lit.wf, Bool.and_eq_true, decide_eq_true_eq] at w2
    exact w2
  exact freshends_any R st vq vs ask ca bd lq ls a1 a2 w hR hq hs bq bs hb2.1 hb2.2

end Go.Proofs.Ytdcdckjdloddiaa
