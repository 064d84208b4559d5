/-
  ReuseStricter.
-/
import Derived.Test.YtdcdckjdloddiaaReOnly
import Derived.Test.YtdcdckjdloddiaaRePush
namespace Go.Proofs.Ytdcdckjdloddiaa
open Go.ChangeShapes Go.WideShapes Go.ChangeAt Go.RowKit
set_option linter.unusedVariables false

theorem below_aft21 {B : Nat} {a c d : World} (h : Below B a c) (k : Aft c d) (hb : B ≤ c.heap.size) : Below B a d := Below.trans h (Below.mono k hb)
theorem Q6.below {B g : Nat} {w w' : World} {R : Array Value} (h : Q6 w g R) (b : Below B w w') (hl : g < B) : Q6 w' g R := (b.block g hl).trans h
theorem blk_grown {w w' : World} {g : Nat} {o : Obj} {row : Option Nat} (h : w.heap[g]? = some o) (hg : w.grownBy w' row) (hne : row ≠ some g) : w'.heap[g]? = some o := by
  have hl : g < w.heap.size := by
    rcases Nat.lt_or_ge g w.heap.size with h1 | h1
    · exact h1
    · rw [Array.getElem?_eq_none h1] at h; cases h
  rw [hg.block g hl (fun e => hne e.symm)]
  exact h
theorem blk_lt21 {w : World} {g : Nat} {o : Obj} (h : w.heap[g]? = some o) : g < w.heap.size := by
  rcases Nat.lt_or_ge g w.heap.size with h1 | h1
  · exact h1
  · rw [Array.getElem?_eq_none h1] at h; cases h
theorem rb_blk21 {w : World} {g : Nat} {n v : ByteArray} (h : w.heap[g]? = some (.cells #[.string n, .string v] 38 (0, 0))) : RbF w (.slice (some ⟨g, 0, none⟩) 1 1) [(n.data.toList, v.data.toList)] := by
  refine Or.inr ⟨g, 0, 1, rfl, Nat.le_refl _, by unfold maxLen; omega, blk_lt21 h, fun i hi => ?_⟩
  obtain rfl : i = 0 := by simp at hi; omega
  constructor
  · rw [cell_of_row w g _ _ _ (0, 0) h]; rfl
  · rw [cell_of_row w g _ _ _ (0, 0) h]; rfl
def moreS (X : ByteArray) : List ByteArray := [⟨#[110, 111, 45, 99, 97, 99, 104, 101]⟩, ⟨#[109, 97, 120, 45, 97, 103, 101, 61]⟩ ++ X, ⟨#[109, 105, 110, 45, 102, 114, 101, 115, 104, 61]⟩ ++ X, ⟨#[111, 110, 108, 121, 45, 105, 102, 45, 99, 97, 99, 104, 101, 100]⟩, ⟨#[112, 117, 98, 108, 105, 99]⟩]
theorem str_app21 (a b : ByteArray) : (a ++ b).data.toList = a.data.toList ++ b.data.toList := by rw [ByteArray.data_append, Array.toList_append]
theorem more_cell {w : World} {g n : Nat} {X : ByteArray} (hX : X.data.toList = decD n) (h : w.heap[g]? = some (.cells #[.string ⟨#[110, 111, 45, 99, 97, 99, 104, 101]⟩, .string (⟨#[109, 97, 120, 45, 97, 103, 101, 61]⟩ ++ X), .string (⟨#[109, 105, 110, 45, 102, 114, 101, 115, 104, 61]⟩ ++ X), .string ⟨#[111, 110, 108, 121, 45, 105, 102, 45, 99, 97, 99, 104, 101, 100]⟩, .string ⟨#[112, 117, 98, 108, 105, 99]⟩] 9 (0, 0))) (j : Nat) (hj : j ≤ 4) :
    ∃ S : ByteArray, w.cell? ⟨g, j, none⟩ = some (.string S) ∧ S.data.toList = moreX j n := by
  rw [cell_of_row w g j _ _ (0, 0) h]
  match j, hj with
  | 0, _ => exact ⟨_, rfl, rfl⟩
  | 1, _ => exact ⟨_, rfl, by rw [str_app21, hX]; rfl⟩
  | 2, _ => exact ⟨_, rfl, by rw [str_app21, hX]; rfl⟩
  | 3, _ => exact ⟨_, rfl, rfl⟩
  | 4, _ => exact ⟨_, rfl, rfl⟩
theorem more_ok (j n : Nat) (hj : j ≤ 4) : ∀ c ∈ moreX j n, c ≠ 44 ∧ c ≠ 34 := by
  match j, hj with
  | 0, _ => show ∀ c ∈ nNoCache, c ≠ 44 ∧ c ≠ 34; decide +kernel
  | 1, _ => exact no_tok (n := nMaxAge) (by decide +kernel) (dig_tok n)
  | 2, _ => exact no_tok (n := nFresh) (by decide +kernel) (dig_tok n)
  | 3, _ => show ∀ c ∈ nOnly, c ≠ 44 ∧ c ≠ 34; decide +kernel
  | 4, _ => show ∀ c ∈ nPublic, c ≠ 44 ∧ c ≠ 34; decide +kernel
theorem more_len {j n : Nat} (hn : n ≤ 65535) : (moreX j n).length ≤ 2000 := by
  have h := decD_len 4 n (by omega)
  match j with
  | 0 => show nNoCache.length ≤ 2000; decide
  | 1 => unfold moreX; simp [nMaxAge]; omega
  | 2 => unfold moreX; simp [nFresh]; omega
  | 3 => show nOnly.length ≤ 2000; decide
  | j + 4 => show nPublic.length ≤ 2000; decide
theorem uns_no {l : List FieldL} (h : 0 < (valsF nCC l).length) : unsF l = false := by unfold unsF; rw [if_pos h]
theorem cc_more {l : List FieldL} (v : List UInt8) (h : 0 < (valsF nCC l).length) : 0 < (valsF nCC (l ++ [(nCC, v)])).length := by
  rw [valsF_app, List.length_append]; omega
def reqZ : Array Value := #[.string ⟨#[]⟩, .string ⟨#[]⟩, .string ⟨#[]⟩, .string ⟨#[]⟩, .slice none 0 0, .int .i64 0]
theorem req_pre (w : World) {Q : Array Value} {v : Value} (hQ : ReqR Q v) (h1 : Q.all (·.oneCell') = true) : (w.alloc (.cells reqZ 24)).heap[w.heap.size]? = some (.cells reqZ 24 (0, 0)) ∧ (Try.prog.info? 24).map (·.size) = some Q.size ∧ reqZ.size = Q.size ∧ Q.all (·.oneCell') = true :=
  ⟨heap_alloc_new w _, hQ.info, by rw [hQ.size]; rfl, h1⟩
theorem req_put (w : World) (Q : Array Value) : Q6 ((w.alloc (.cells reqZ 24)).setRow w.heap.size Q) w.heap.size Q ∧ Aft w ((w.alloc (.cells reqZ 24)).setRow w.heap.size Q) := by
  have h : Q6 (w.alloc (.cells reqZ 24)) w.heap.size reqZ := heap_alloc_new w _
  exact ⟨setRow_heap _ _ _ _ _ _ h, below_setRow ((Aft.refl w).alloc _) (Nat.le_refl _) _⟩
theorem digits_of21 (n : Nat) (hn : n ≤ 65535) (X : ByteArray) (hX : X.data.toList = decD n) (w : World) :
    Calls Try.prog 30 #[.int .i64 (n : Int)] w fun e w' => e = .returned (.string X) ∧ Aft w w' := by
  have e : X = ⟨(decD n).toArray⟩ := bytes_ext (by rw [hX])
  rw [e]
  exact digits_21 n (by omega) w
theorem dec5_21 {n : Nat} (hn : n ≤ 65535) {X : ByteArray} (hX : X.data.toList = decD n) : X.size ≤ 5 := by
  rw [← size_len, hX]
  exact decD_len 4 n (by omega)
theorem rall_n {v : Value} {l : List FieldL} {w : World} (hr : RbF w v l) (hL : sumL l ≤ 2000) {J : ByteArray} (hJ : Lib.join (valsF nCC l) [44, 32] = J.data.toList) :
    Calls Try.prog 28 #[v, .string ⟨#[99, 97, 99, 104, 101, 45, 99, 111, 110, 116, 114, 111, 108]⟩] w fun e w' => e = .returned (.tuple #[.string J, .int .i64 ((valsF nCC l).length : Int)]) ∧ Aft w w' := by
  have := rall_any v l ⟨nCC.toArray⟩ w hr (by have := sumL_len l; omega) (fun f hf => by have := sumL_mem hf; omega)
  refine this.mono ?_
  rintro e w' ⟨rfl, a⟩
  refine ⟨?_, a⟩
  have e1 : (⟨(Lib.join (valsF (⟨nCC.toArray⟩ : ByteArray).data.toList l) [44, 32]).toArray⟩ : ByteArray) = J := bytes_ext (by rw [← hJ])
  rw [e1]
structure TS (g g19 : Nat) (R Q P : Array Value) (vs vq vn : Value) (ls lq lp : List FieldL) (w : World) : Prop where
  b : EB w g R
  q : Q6 w (g + 1) Q
  p : Q6 w g19 P
  s : RbF w vs ls
  f : RbF w vq lq
  m : RbF w vn lp
theorem TS.aft {g g19 : Nat} {R Q P : Array Value} {vs vq vn : Value} {ls lq lp : List FieldL} {w w' : World} (h : TS g g19 R Q P vs vq vn ls lq lp w) (a : Aft w w') : TS g g19 R Q P vs vq vn ls lq lp w' :=
  ⟨h.b.aft a, h.q.aft a, h.p.aft a, h.s.aft a, h.f.aft a, h.m.aft a⟩

set_option maxHeartbeats 32000000 in
set_option maxRecDepth 100000 in
theorem reusestricter_any (R Q : Array Value) (st : Int) (v0 vs vq : Value) (ask ca now wh : Int) (n : Nat) (bd : ByteArray) (x : Nat) (l0 ls lq : List FieldL) (w : World) (hR : EntA R st v0 vs ask ca bd) (hQ : ReqR Q vq) (hQ1 : Q.all (·.oneCell') = true) (h0 : RbF w v0 l0) (hs : RbF w vs ls) (hq : RbF w vq lq) (b0 : FieldsLim l0) (bs : FieldsLim ls) (bq : FieldsLim lq)
    (wh0 : -9223372036854775808 ≤ wh) (wh1 : wh ≤ 9223372036854775807) (n1 : n ≤ 65535) :
    Calls Try.prog 7 #[.agg R, .agg Q, .int .i64 now, .float .f64 x, .int .i64 wh, .int .u16 (n : Int)] w fun e w' => e = .returned (.bool true) ∧ Aft w w' := by
  have HSM := Lib.hid (fun w h1 h2 => small_any R st v0 vs ask ca bd l0 ls w hR h1 h2 b0 bs)
  have HLI := Lib.hid (fun w h => light_any vq lq w h bq)
  have HWH := Lib.hid (fun w => within_any wh 0 4 wh0 wh1 (by decide) (by decide) (by decide) w)
  obtain ⟨X, hX⟩ : ∃ D : ByteArray, D.data.toList = decD n := ⟨⟨(decD n).toArray⟩, rfl⟩
  have HDG := Lib.hid (fun w => digits_of21 n n1 X hX w)
  have zx := dec5_21 n1 hX
  have HXX := Lib.hid hX
  have HN1 := Lib.hid n1
  have in0 : 0 ≤ (n : Int) := by omega
  have in1 : (n : Int) ≤ 65535 := by omega
  obtain ⟨W, g, hW, hg, hA, hB, hC⟩ := box_of w R Q
  have HR := Lib.hid hR.r
  have HQ := Lib.hid hQ
  have HQ1 := Lib.hid hQ1
  have HINF := Lib.hid hR.r.info
  have HINQ := Lib.hid hQ.info
  have R0 := Lib.hid (h0.aft hA)
  have RS := Lib.hid hs
  have RQ := Lib.hid hq
  have HA := Lib.hid hA
  have HB := Lib.hid hB
  have HC := Lib.hid hC
  have HG := Lib.hid hg
  obtain ⟨as_, cs, bs_, os, hvs, -⟩ := hs.open
  obtain ⟨aq, cq, bq_, oq, hvq, -⟩ := hq.open
  obtain ⟨sm, hsm⟩ : ∃ sm, smallB l0 ls bd.size = sm := ⟨_, rfl⟩
  rw [hsm] at HSM
  have HX := Lib.hid hsm
  subst hvs hvq
  clear hA hB hC hs hq h0 hR hQ b0 bs bq hsm hX wh0 wh1 n1 hQ1
  go_enter Try.func7, Try.ntmps7
  go_upto_region 1 with fail
  clear hW hg
  go_wp2_with (refine wpList_load_row_w rfl 28 (.tmp 6) rfl g rfl _ R (0, 0) _ HB.out Try.underlying28 rfl HINF.out ?_)
  refine (HSM.out _ R0.out (RS.out.aft HA.out)).mono ?_
  rintro e w1 ⟨rfl, a1⟩
  have HB1 := Lib.hid (HB.out.aft a1)
  have HC1 := Lib.hid (HC.out.aft a1)
  have HA1 := Lib.hid (HA.out.trans a1)
  clear a1 HB HC HA R0 HSM
  cases sm
  · go_wp2_with fail
    refine (reuseruns_any _).mono ?_
    rintro e w2 ⟨rfl, a2⟩
    have HA2 := Lib.hid (HA1.out.trans a2)
    clear a2
    go_wp2_with fail
    go_ret
    exact ⟨rfl, HA2.out⟩
  have y4 := HC1.out.cell HQ.out
  go_wp2_with fail
  refine (HLI.out _ (RQ.out.aft HA1.out)).mono ?_
  rintro e w2 ⟨rfl, a2⟩
  have HB2 := Lib.hid (HB1.out.aft a2)
  have HC2 := Lib.hid (HC1.out.aft a2)
  have HA2 := Lib.hid (HA1.out.trans a2)
  clear a2 y4 HB1 HC1 HA1 HLI
  by_cases hli : sumL lq ≤ 2000
  rotate_left
  · rw [decide_eq_false hli]
    clear hli
    go_wp2_with fail
    refine (reuseruns_any _).mono ?_
    rintro e w3 ⟨rfl, a3⟩
    have HA3 := Lib.hid (HA2.out.trans a3)
    clear a3
    go_wp2_with fail
    go_ret
    exact ⟨rfl, HA3.out⟩
  rw [decide_eq_true hli]
  have HLI := Lib.hid hli
  have HKS := Lib.hid (rok_small HX.out).fok
  obtain ⟨J, hJ⟩ : ∃ J : ByteArray, Lib.join (valsF nCC lq) [44, 32] = J.data.toList := ⟨⟨(Lib.join (valsF nCC lq) [44, 32]).toArray⟩, rfl⟩
  have HRA := Lib.hid (fun w h => rall_n (v := .slice aq lq.length cq) (w := w) h hli hJ)
  obtain ⟨so, hso⟩ : ∃ o, (splF J.data.toList).isSome = o := ⟨_, rfl⟩
  have HRS := Lib.hid (fun w => rsplit_b J w (join_sz hli hJ) _ hso)
  have HOS : Hid (so = true → ∃ P, splF (Lib.join (valsF nCC lq) [44, 32]) = some P) := Lib.hid (fun h => by rw [hJ]; rw [h] at hso; exact Option.isSome_iff_exists.1 hso)
  obtain ⟨kn, hkn⟩ : ∃ k, (valsF nCC lq).length = k := ⟨_, rfl⟩
  rw [hkn] at HRA
  have HKN := Lib.hid hkn
  have y4 := HC2.out.cell HQ.out
  clear hJ hso hli hkn
  go_wp2_with fail
  refine (HRA.out _ (RQ.out.aft HA2.out)).mono ?_
  rintro e w3 ⟨rfl, a3⟩
  have HB3 := Lib.hid (HB2.out.aft a3)
  have HC3 := Lib.hid (HC2.out.aft a3)
  have HA3 := Lib.hid (HA2.out.trans a3)
  clear a3 y4 HB2 HC2 HA2 HRA
  go_wp2_with fail
  refine (HRS.out _).mono ?_
  rintro e w4 ⟨v4, rfl, a4⟩
  have HB4 := Lib.hid (HB3.out.aft a4)
  have HC4 := Lib.hid (HC3.out.aft a4)
  have HA4 := Lib.hid (HA3.out.trans a4)
  clear a4 HB3 HC3 HA3 HRS
  cases so
  · go_wp2_with fail
    refine (reuseruns_any _).mono ?_
    rintro e w5 ⟨rfl, a5⟩
    have HA5 := Lib.hid (HA4.out.trans a5)
    clear a5
    go_wp2_with fail
    go_ret
    exact ⟨rfl, HA5.out⟩
  obtain ⟨P, hP⟩ := HOS.out rfl
  have HP := Lib.hid hP
  clear hP HOS
  by_cases hk0 : kn = 0
  · have hk1 : ((kn : Int) == 0) = true := by rw [hk0]; rfl
    clear hk0
    go_wp2_with fail
    refine (reuseruns_any _).mono ?_
    rintro e w5 ⟨rfl, a5⟩
    have HA5 := Lib.hid (HA4.out.trans a5)
    clear a5
    go_wp2_with fail
    go_ret
    exact ⟨rfl, HA5.out⟩
  have hk1 : ((kn : Int) == 0) = false := by simpa using hk0
  have HKP : Hid (0 < (valsF nCC lq).length) := Lib.hid (by rw [HKN.out]; omega)
  clear hk0
  go_wp2_with fail
  refine (HDG.out _).mono ?_
  rintro e w5 ⟨rfl, a5⟩
  go_wp2_with fail
  refine (HDG.out _).mono ?_
  rintro e w6 ⟨rfl, a6⟩
  have a56 := a5.trans a6
  have hal := a56.alloc (.cells #[.string ⟨#[110, 111, 45, 99, 97, 99, 104, 101]⟩, .string (⟨#[109, 97, 120, 45, 97, 103, 101, 61]⟩ ++ X), .string (⟨#[109, 105, 110, 45, 102, 114, 101, 115, 104, 61]⟩ ++ X), .string ⟨#[111, 110, 108, 121, 45, 105, 102, 45, 99, 97, 99, 104, 101, 100]⟩, .string ⟨#[112, 117, 98, 108, 105, 99]⟩] 9)
  have hnew := heap_alloc_new w6 (.cells #[.string ⟨#[110, 111, 45, 99, 97, 99, 104, 101]⟩, .string (⟨#[109, 97, 120, 45, 97, 103, 101, 61]⟩ ++ X), .string (⟨#[109, 105, 110, 45, 102, 114, 101, 115, 104, 61]⟩ ++ X), .string ⟨#[111, 110, 108, 121, 45, 105, 102, 45, 99, 97, 99, 104, 101, 100]⟩, .string ⟨#[112, 117, 98, 108, 105, 99]⟩] 9)
  have HB7 := Lib.hid (HB4.out.aft hal)
  have HC7 := Lib.hid (HC4.out.aft hal)
  have HA7 := Lib.hid (HA4.out.trans hal)
  have HM7 := Lib.hid hnew
  clear hal hnew a5 a6 a56 HB4 HC4 HA4 HDG hk1
  go_upto_region 8 with fail
  generalize w6.alloc (.cells #[.string ⟨#[110, 111, 45, 99, 97, 99, 104, 101]⟩, .string (⟨#[109, 97, 120, 45, 97, 103, 101, 61]⟩ ++ X), .string (⟨#[109, 105, 110, 45, 102, 114, 101, 115, 104, 61]⟩ ++ X), .string ⟨#[111, 110, 108, 121, 45, 105, 102, 45, 99, 97, 99, 104, 101, 100]⟩, .string ⟨#[112, 117, 98, 108, 105, 99]⟩] 9) = W7 at HB7 HC7 HA7 HM7 ⊢
  generalize w6.heap.size = g17 at HM7 ⊢
  go_wp2_with fail
  refine (HWH.out _).mono ?_
  rintro e w8 ⟨r, rfl, r0, r1, rfl⟩
  obtain ⟨j, rfl⟩ := Int.eq_ofNat_of_zero_le r0
  obtain ⟨S, hS, hSX⟩ := more_cell HXX.out HM7.out j (by omega)
  have HSX := Lib.hid hSX
  have hpre := req_pre W7 HQ.out HQ1.out
  have hput := req_put W7 Q
  have HPRE := Lib.hid hpre
  have HPUT := Lib.hid hput
  have HM8 := Lib.hid (And.intro hS (blk_lt21 HM7.out))
  clear hpre hput hS hSX HM7 HWH r0
  go_upto_region 10 with (first | (refine wpList_load_row_w rfl 24 (.tmp 7) rfl (g + 1) rfl _ Q (0, 0) _ HC7.out Try.underlying24 rfl HINQ.out ?_) | (refine wpList_store_rowTo rfl 24 (.tmp 19) (.tmp 63) rfl rfl W7.heap.size Q rfl rfl _ _ HPRE.out.1 HPRE.out.2.1 HPRE.out.2.2.1 HPRE.out.2.2.2 ?_))
  obtain ⟨W10, hW10⟩ : ∃ W, (W7.alloc (.cells reqZ 24)).setRow W7.heap.size Q = W := ⟨_, rfl⟩
  rw [hW10] at HPUT
  rw [show (W7.alloc (.cells #[.string ⟨#[]⟩, .string ⟨#[]⟩, .string ⟨#[]⟩, .string ⟨#[]⟩, .slice none 0 0, .int .i64 0] 24)).setRow W7.heap.size Q = W10 from hW10]
  have HP10 := Lib.hid HPUT.out.1
  have A10 := HPUT.out.2
  have HB10 := Lib.hid (HB7.out.aft A10)
  have HC10 := Lib.hid (HC7.out.aft A10)
  have HA10 := Lib.hid (HA7.out.trans A10)
  have HM10 : Hid (W10.cell? ⟨g17, j, none⟩ = some (.string S)) := Lib.hid ((Below.cell A10.to (p := ⟨g17, j, none⟩) HM8.out.2).trans HM8.out.1)
  have HLT : Hid (g + 1 < W7.heap.size ∧ g17 < W7.heap.size ∧ w.heap.size ≤ W7.heap.size) := Lib.hid ⟨HC7.out.lt, HM8.out.2, HA7.out.to.size⟩
  clear A10 hW10 HPUT HPRE HB7 HC7 HA7 HM8
  generalize W7.heap.size = g19 at HP10 HLT ⊢
  have HLL : Hid (([] : List FieldL).length + lq.length ≤ 1000000000000 ∧ lq.length + 1 ≤ 1000000000000) := Lib.hid (by have := sumL_len lq; have := HLI.out; simp; omega)
  have jb0 : 0 ≤ (j : Int) := by omega
  have jb1 : (j : Int) < 5 := by omega
  have jb2 : j < 5 := by omega
  go_cut [] (fun wx => ∃ (W11 : World) (vn : Value) (Q11 : Array Value), W11 = wx ∧ Hid (Q6 wx g19 Q11 ∧ ReqR Q11 vn ∧ RbF wx vn (lq ++ [(nCC, S.data.toList)]) ∧ Below g19 W10 wx))
  case first =>
    refine wp_region_held_drew (S := Below g19 W10) (by kernel_rfl) (Below.mono ((Aft.refl W10).drew).to (by have := HP10.out.lt; omega)) (fun hHeld => ?_)
    have z19 := HP10.out.aft ((Aft.refl W10).drew)
    generalize W10.drew = Wd at hHeld z19 ⊢
    refine wpAnyH_take (i := 1) (oi := { dst := some 65, op := Go.Op.fieldAddr 24 (Go.Operand.tmp 7) 4, type := 0, pos := _, after := _, guard := _ }) (v := ?_) rfl (by kernel_rfl) (by kernel_rfl) (by kernel_rfl) (fun _ _ _ h => h) (Or.inl ⟨by rfl, ?_⟩) (by exact hHeld) ?_
    rotate_left
    · intro w hSw; go_simp; try with_reducible rfl
    try simp only [Act.put]
    try simp only [List.setIfInBounds_toArray]
    try simp only [List.set]
    refine wpAnyH_take (i := 2) (oi := { dst := some 66, op := Go.Op.load 22 (Go.Operand.tmp 65), type := 22, pos := _, after := _, guard := _ }) (v := ?_) rfl (by kernel_rfl) (by kernel_rfl) (by kernel_rfl) (fun _ _ _ h => h) (Or.inl ⟨by rfl, ?_⟩) (by exact hHeld) ?_
    rotate_left
    · intro w hSw; have y4 := (HC10.out.below hSw HLT.out.1).cell HQ.out; have ym := (Below.cell hSw (p := ⟨g17, j, none⟩) HLT.out.2.1).trans HM10.out; go_simp; try with_reducible rfl
    try simp only [Act.put]
    try simp only [List.setIfInBounds_toArray]
    try simp only [List.set]
    refine wpAnyH_take (i := 4) (oi := { dst := some 68, op := Go.Op.move (Go.Operand.tmp 17), type := 55, pos := _, after := _, guard := _ }) (v := ?_) rfl (by kernel_rfl) (by kernel_rfl) (by kernel_rfl) (fun _ _ _ h => h) (Or.inl ⟨by rfl, ?_⟩) (by exact hHeld) ?_
    rotate_left
    · intro w hSw; go_simp; try with_reducible rfl
    try simp only [Act.put]
    try simp only [List.setIfInBounds_toArray]
    try simp only [List.set]
    refine wpAnyH_take (i := 5) (oi := { dst := some 69, op := Go.Op.move (Go.Operand.tmp 18), type := 3, pos := _, after := _, guard := _ }) (v := ?_) rfl (by kernel_rfl) (by kernel_rfl) (by kernel_rfl) (fun _ _ _ h => h) (Or.inl ⟨by rfl, ?_⟩) (by exact hHeld) ?_
    rotate_left
    · intro w hSw; go_simp; try with_reducible rfl
    try simp only [Act.put]
    try simp only [List.setIfInBounds_toArray]
    try simp only [List.set]
    refine wpAnyH_take (i := 6) (oi := { dst := some 70, op := Go.Op.indexAddr 55 (Go.Operand.tmp 68) (Go.Operand.tmp 69), type := 0, pos := _, after := _, guard := _ }) (v := ?_) rfl (by kernel_rfl) (by kernel_rfl) (by kernel_rfl) (fun _ _ _ h => h) (Or.inl ⟨by rfl, ?_⟩) (by exact hHeld) ?_
    rotate_left
    · intro w hSw; go_simp; try with_reducible rfl
    try simp only [Act.put]
    try simp only [List.setIfInBounds_toArray]
    try simp only [List.set]
    refine wpAnyH_take (i := 7) (oi := { dst := some 71, op := Go.Op.load 9 (Go.Operand.tmp 70), type := 9, pos := _, after := _, guard := _ }) (v := ?_) rfl (by kernel_rfl) (by kernel_rfl) (by kernel_rfl) (fun _ _ _ h => h) (Or.inl ⟨by rfl, ?_⟩) (by exact hHeld) ?_
    rotate_left
    · intro w hSw; have y4 := (HC10.out.below hSw HLT.out.1).cell HQ.out; have ym := (Below.cell hSw (p := ⟨g17, j, none⟩) HLT.out.2.1).trans HM10.out; go_simp; try with_reducible rfl
    try simp only [Act.put]
    try simp only [List.setIfInBounds_toArray]
    try simp only [List.set]
    refine wpAnyH_ready (rs := [0]) (by kernel_rfl) (by simp) ?_
    refine (AllReadyH.cons (o := { dst := some 64, op := Go.Op.buildSlice 22 0 #[], type := 22, pos := _, after := _, guard := _ }) rfl (fun K hK => ?_) AllReadyH.nil)
    · go_simp
      have hl : Aft Wd (Wd.alloc (.cells #[] 38)) := (Aft.refl _).alloc _
      have hn := OwnF.base (OwnF.empty Wd Wd.heap.size (Nat.le_refl _)) (show g19 + 1 ≤ Wd.heap.size from z19.lt)
      have hS2 := below_aft21 hHeld hl (Nat.le_of_lt z19.lt)
      have z := Q6.aft z19 hl
      clear z19
      have z19 := z
      clear z
      obtain ⟨u0, hu⟩ : ∃ u, Wd.alloc (.cells #[] 38) = u := ⟨_, rfl⟩
      rw [hu] at hn hS2 z19
      rw [show Wd.alloc (.cells #[] 38) = u0 from hu]
      clear hu hl
      generalize Wd.heap.size = B0 at hn ⊢
      have o0 := hn
      clear hn
      clear hHeld
      refine hK.out _ _ hS2 (fun hHeld => ?_)
      clear hK K hS2
      try simp only [Act.put]
      try simp only [List.setIfInBounds_toArray]
      try simp only [List.set]
      refine wpAnyH_ready (rs := [3]) (by kernel_rfl) (by simp) ?_
      refine (AllReadyH.cons (o := { dst := some 67, op := Go.Op.call { callee := Go.Callee.builtin Go.Builtin.append, args := #[Go.Operand.tmp 64, Go.Operand.tmp 66], argTypes := #[22, 22] }, type := 22, pos := _, after := _, guard := _ }) rfl (fun K hK => ?_) AllReadyH.nil)
      · refine step_push21 rfl (.tmp 64) (.tmp 66) rfl (g19 + 1) _ _ [] lq rfl o0 rfl (RQ.out.aft (Below.trans HA10.out (Below.mono hHeld HLT.out.2.2))) HLL.out.1 z19.lt ?_
        intro v3 w3 o3 g3
        rw [List.nil_append] at o3
        have hb := pushF_below (Below.refl (g19 + 1) _) o0 g3 (Nat.le_refl _) z19.lt
        have hS2 := Below.trans hHeld (Below.mono hb (Nat.le_succ _))
        have z := z19.below hb (Nat.lt_succ_self _)
        clear z19
        have z19 := z
        clear z
        clear o0 g3 hb
        clear hHeld
        refine hK.out _ _ hS2 (fun hHeld => ?_)
        clear hK K hS2
        try simp only [Act.put]
        try simp only [List.setIfInBounds_toArray]
        try simp only [List.set]
        refine wpAnyH_ready (rs := [8]) (by kernel_rfl) (by simp) ?_
        refine (AllReadyH.cons (o := { dst := some 72, op := Go.Op.call { callee := Go.Callee.value (Go.Operand.func 31), args := #[Go.Operand.const (Go.Value.string { data := #[99, 97, 99, 104, 101, 45, 99, 111, 110, 116, 114, 111, 108] }), Go.Operand.tmp 71], argTypes := #[9, 9] }, type := 38, pos := _, after := _, guard := _ }) rfl (fun K hK => ?_) AllReadyH.nil)
        · go_simp
          go_at_call 31
          refine (of21_any _ _ _).mono ?_
          rintro e w8 ⟨rfl, ha⟩
          have hS2 := below_aft21 hHeld ha (Nat.le_of_lt z19.lt)
          have z := Q6.aft z19 ha
          clear z19
          have z19 := z
          clear z
          have z := OwnF.aft o3 ha
          clear o3
          have o3 := z
          clear z
          clear ha
          clear hHeld
          refine hK.out _ _ hS2 (fun hHeld => ?_)
          clear hK K hS2
          try simp only [Act.put]
          try simp only [List.setIfInBounds_toArray]
          try simp only [List.set]
          refine wpAnyH_ready (rs := [9]) (by kernel_rfl) (by simp) ?_
          refine (AllReadyH.cons (o := { dst := some 73, op := Go.Op.buildSlice 22 1 #[(0, Go.Operand.tmp 72)], type := 22, pos := _, after := _, guard := _ }) rfl (fun K hK => ?_) AllReadyH.nil)
          · go_simp
            have hl : Aft w8 (w8.alloc (.cells #[.string ⟨#[99, 97, 99, 104, 101, 45, 99, 111, 110, 116, 114, 111, 108]⟩, .string S] 38)) := (Aft.refl _).alloc _
            have hn := heap_alloc_new w8 (.cells #[.string ⟨#[99, 97, 99, 104, 101, 45, 99, 111, 110, 116, 114, 111, 108]⟩, .string S] 38)
            have hS2 := below_aft21 hHeld hl (Nat.le_of_lt z19.lt)
            have z := Q6.aft z19 hl
            clear z19
            have z19 := z
            clear z
            have z := OwnF.aft o3 hl
            clear o3
            have o3 := z
            clear z
            obtain ⟨u9, hu⟩ : ∃ u, w8.alloc (.cells #[.string ⟨#[99, 97, 99, 104, 101, 45, 99, 111, 110, 116, 114, 111, 108]⟩, .string S] 38) = u := ⟨_, rfl⟩
            rw [hu] at hn hS2 z19 o3
            rw [show w8.alloc (.cells #[.string ⟨#[99, 97, 99, 104, 101, 45, 99, 111, 110, 116, 114, 111, 108]⟩, .string S] 38) = u9 from hu]
            clear hu hl
            generalize w8.heap.size = b9 at hn ⊢
            have h9 := hn
            clear hn
            clear hHeld
            refine hK.out _ _ hS2 (fun hHeld => ?_)
            clear hK K hS2
            try simp only [Act.put]
            try simp only [List.setIfInBounds_toArray]
            try simp only [List.set]
            refine wpAnyH_ready (rs := [10]) (by kernel_rfl) (by simp) ?_
            refine (AllReadyH.cons (o := { dst := some 74, op := Go.Op.call { callee := Go.Callee.builtin Go.Builtin.append, args := #[Go.Operand.tmp 67, Go.Operand.tmp 73], argTypes := #[22, 22] }, type := 22, pos := _, after := _, guard := _ }) rfl (fun K hK => ?_) AllReadyH.nil)
            · refine step_push21 rfl (.tmp 67) (.tmp 73) rfl (g19 + 1) _ _ lq [(nCC, S.data.toList)] rfl o3 rfl (rb_blk21 h9) HLL.out.2 z19.lt ?_
              intro v10 w10 o10 g10
              have hb := pushF_below (Below.refl (g19 + 1) _) o3 g10 (Nat.le_refl _) z19.lt
              have hS2 := Below.trans hHeld (Below.mono hb (Nat.le_succ _))
              have z := z19.below hb (Nat.lt_succ_self _)
              clear z19
              have z19 := z
              clear z
              obtain ⟨a10, k10, hv10, -⟩ := o10.slice
              subst hv10
              have hlen : (lq ++ [(nCC, S.data.toList)]).length = lq.length + 1 := by rw [List.length_append]; rfl
              rw [hlen] at o10
              try rw [hlen]
              clear o3 h9 g10 hb hlen
              clear hHeld
              refine hK.out _ _ hS2 (fun hHeld => ?_)
              clear hK K hS2
              try simp only [Act.put]
              try simp only [List.setIfInBounds_toArray]
              try simp only [List.set]
              refine wpAnyH_take (i := 11) (oi := { dst := some 75, op := Go.Op.fieldAddr 24 (Go.Operand.tmp 19) 4, type := 0, pos := _, after := _, guard := _ }) (v := ?_) rfl (by kernel_rfl) (by kernel_rfl) (by kernel_rfl) (fun _ _ _ h => h) (Or.inl ⟨by rfl, ?_⟩) (by exact hHeld) ?_
              rotate_left
              · intro w hSw; go_simp; try with_reducible rfl
              try simp only [Act.put]
              try simp only [List.setIfInBounds_toArray]
              try simp only [List.set]
              refine wpAnyH_ready (rs := [12]) (by kernel_rfl) (by simp) ?_
              refine (AllReadyH.cons (o := { dst := none, op := Go.Op.store 22 (Go.Operand.tmp 75) (Go.Operand.tmp 74), type := 0, pos := _, after := _, guard := _ }) rfl (fun K hK => ?_) AllReadyH.nil)
              · have y19 := z19.cell HQ.out
                have f19 := frozen_of_row _ g19 4 _ _ z19
                go_simp
                have hS2 := bset hHeld g19 4 (.slice a10 (lq.length + 1) k10) (Nat.le_refl _)
                have zz := z19.put21 4 (.slice a10 (lq.length + 1) k10)
                have rr := o10.rb.put21 ⟨g19, 4, none⟩ _ _ _ y19 (.slice a10 (lq.length + 1) k10)
                clear y19 f19 z19 o10
                clear hHeld
                refine hK.out _ _ hS2 (fun hHeld => ?_)
                clear hK K hS2
                try simp only [Act.put]
                try simp only [List.setIfInBounds_toArray]
                try simp only [List.set]
                refine wpAnyH_done (by kernel_rfl) ?_ _
                go_wp2_with fail
                go_meet
                exact ⟨_, _, _, rfl, Lib.hid ⟨zz, HQ.out.put21 _, rr, hHeld⟩⟩
  case rest =>
    obtain ⟨W11, vn, Q11, hW11, HCUT⟩ := hcut
    subst hW11
    have hA11 : Aft w W11 := Below.trans HA10.out (Below.mono HCUT.out.2.2.2 HLT.out.2.2)
    have HB11 : EB W11 g R := (HCUT.out.2.2.2.block g (by have := HLT.out.1; omega)).trans HB10.out
    have HT11 := Lib.hid (TS.mk (g := g) (g19 := g19) HB11 (HC10.out.below HCUT.out.2.2.2 HLT.out.1) HCUT.out.1 (RS.out.aft hA11) (RQ.out.aft hA11) HCUT.out.2.2.1)
    have HQ11 := Lib.hid HCUT.out.2.1
    have HA11 := Lib.hid hA11
    clear hA11 HB11 HCUT HB10 HC10 HA10 HM10 HP10 RS RQ HINF HINQ jb0 jb1
    have hctl : ctlF (lq ++ [(nCC, S.data.toList)]) = ctlJoin (ctlF lq) (moreE j n) := by
      rw [HSX.out, ctl_app HP.out (bare_spl (more_ok j n (by omega))), ctl_more j n HN1.out]
    have hfk : FOk (lq ++ [(nCC, S.data.toList)]) := fok_more HLI.out (nCC, S.data.toList) (by simp only; rw [HSX.out]; exact more_len HN1.out)
    have kq := rok_light HLI.out
    have HO1 := Lib.hid (fun w h1 h2 => reuse_any R Q st (.slice as_ ls.length cs) (.slice aq lq.length cq) ask ca now x ls lq w HR.out HQ.out h1 h2 HKS.out kq.fok)
    have HO2 := Lib.hid (fun w h1 h2 => reuse_any R Q11 st (.slice as_ ls.length cs) vn ask ca now x ls (lq ++ [(nCC, S.data.toList)]) w HR.out HQ11.out h1 h2 HKS.out hfk)
    have HRC := Lib.hid (fun w h => rctl_any (.slice aq lq.length cq) lq w h kq.len kq.val)
    rw [uns_no HKP.out] at HO1
    rw [uns_no (cc_more S.data.toList HKP.out), hctl] at HO2
    have hstr := stricter (ctlF ls) (ctlF lq) (ctlF_ok lq) j n false (ageF ls ask ca now) (lifeF st ls ca x)
    have hz1 : reuseB (ctlF ls) (ctlF lq) false (ageF ls ask ca now) (lifeF st ls ca x) = 1 ↔ toldB (ctlF ls) (ctlF lq) false (ageF ls ask ca now) (lifeF st ls ca x) = true := by
      unfold reuseB
      split
      · rename_i h; simp [h]
      · rename_i h; rw [eq_false_of_ne_true h]; split <;> simp
    have hz2 : reuseB (ctlF ls) (ctlJoin (ctlF lq) (moreE j n)) false (ageF ls ask ca now) (lifeF st ls ca x) = 1 ↔ toldB (ctlF ls) (ctlJoin (ctlF lq) (moreE j n)) false (ageF ls ask ca now) (lifeF st ls ca x) = true := by
      unfold reuseB
      split
      · rename_i h; simp [h]
      · rename_i h; rw [eq_false_of_ne_true h]; split <;> simp
    rw [← hz1, ← hz2] at hstr
    clear hz1 hz2 hctl hfk kq
    generalize reuseB (ctlF ls) (ctlJoin (ctlF lq) (moreE j n)) false (ageF ls ask ca now) (lifeF st ls ca x) = vb at HO2 hstr
    generalize reuseB (ctlF ls) (ctlF lq) false (ageF ls ask ca now) (lifeF st ls ca x) = va at HO1 hstr
    generalize ctlF lq = d at HRC hstr
    obtain ⟨d0, d1, d2, d3, d4, d5, d6, d7, d8, d9⟩ := d
    simp only at hstr
    have HSTR := Lib.hid hstr
    obtain ⟨Rc, hRc⟩ : ∃ Rc, (ctlC ⟨d0, d1, d2, d3, d4, d5, d6, d7, d8, d9⟩).toArray = Rc := ⟨_, rfl⟩
    have HPR := Lib.hid (fun w => ctl_pre19 w ⟨d0, d1, d2, d3, d4, d5, d6, d7, d8, d9⟩)
    have HPU := Lib.hid (fun w => ctl_put w ⟨d0, d1, d2, d3, d4, d5, d6, d7, d8, d9⟩)
    rw [show ctlV ⟨d0, d1, d2, d3, d4, d5, d6, d7, d8, d9⟩ = .agg Rc by rw [← hRc]; rfl] at HRC
    rw [hRc] at HPR HPU
    clear hstr hRc
    go_upto_region 11 with fail
    have A5 := (Aft.refl W11).drew
    have D5 := Lib.hid (HT11.out.aft A5)
    refine wp_region_held_drew (S := TS g g19 R Q Q11 (.slice as_ ls.length cs) (.slice aq lq.length cq) vn ls lq (lq ++ [(nCC, S.data.toList)])) (by kernel_rfl) D5.out (fun hHeld => ?_)
    refine wpAnyH_take (i := 0) (oi := { dst := some 76, op := Go.Op.load 28 (Go.Operand.tmp 6), type := 28, pos := _, after := _, guard := _ }) (v := ?_) rfl (by kernel_rfl) (by kernel_rfl) (by kernel_rfl) (fun _ _ _ h => h) (Or.inl ⟨by rfl, ?_⟩) (by exact hHeld) ?_
    rotate_left
    · intro w hSw; refine exec_load _ (.tmp 6) ?_ g ?_ R (hSw.b.load HR.out) <;> rfl
    try simp only [Act.put]
    try simp only [List.setIfInBounds_toArray]
    try simp only [List.set]
    refine wpAnyH_take (i := 1) (oi := { dst := some 77, op := Go.Op.load 24 (Go.Operand.tmp 7), type := 24, pos := _, after := _, guard := _ }) (v := ?_) rfl (by kernel_rfl) (by kernel_rfl) (by kernel_rfl) (fun _ _ _ h => h) (Or.inl ⟨by rfl, ?_⟩) (by exact hHeld) ?_
    rotate_left
    · intro w hSw; first | (refine exec_load _ (.tmp 7) ?_ (g + 1) ?_ Q (hSw.q.load HQ.out) <;> rfl) | (refine exec_load _ (.tmp 19) ?_ g19 ?_ Q11 (hSw.p.load HQ11.out) <;> rfl)
    try simp only [Act.put]
    try simp only [List.setIfInBounds_toArray]
    try simp only [List.set]
    refine wpAnyH_take (i := 2) (oi := { dst := some 78, op := Go.Op.move (Go.Operand.tmp 2), type := 3, pos := _, after := _, guard := _ }) (v := ?_) rfl (by kernel_rfl) (by kernel_rfl) (by kernel_rfl) (fun _ _ _ h => h) (Or.inl ⟨by rfl, ?_⟩) (by exact hHeld) ?_
    rotate_left
    · intro w hSw; go_simp; try with_reducible rfl
    try simp only [Act.put]
    try simp only [List.setIfInBounds_toArray]
    try simp only [List.set]
    refine wpAnyH_take (i := 3) (oi := { dst := some 79, op := Go.Op.move (Go.Operand.tmp 3), type := 29, pos := _, after := _, guard := _ }) (v := ?_) rfl (by kernel_rfl) (by kernel_rfl) (by kernel_rfl) (fun _ _ _ h => h) (Or.inl ⟨by rfl, ?_⟩) (by exact hHeld) ?_
    rotate_left
    · intro w hSw; go_simp; try with_reducible rfl
    try simp only [Act.put]
    try simp only [List.setIfInBounds_toArray]
    try simp only [List.set]
    refine wpAnyH_take (i := 5) (oi := { dst := some 81, op := Go.Op.load 28 (Go.Operand.tmp 6), type := 28, pos := _, after := _, guard := _ }) (v := ?_) rfl (by kernel_rfl) (by kernel_rfl) (by kernel_rfl) (fun _ _ _ h => h) (Or.inl ⟨by rfl, ?_⟩) (by exact hHeld) ?_
    rotate_left
    · intro w hSw; refine exec_load _ (.tmp 6) ?_ g ?_ R (hSw.b.load HR.out) <;> rfl
    try simp only [Act.put]
    try simp only [List.setIfInBounds_toArray]
    try simp only [List.set]
    refine wpAnyH_take (i := 6) (oi := { dst := some 82, op := Go.Op.load 24 (Go.Operand.tmp 19), type := 24, pos := _, after := _, guard := _ }) (v := ?_) rfl (by kernel_rfl) (by kernel_rfl) (by kernel_rfl) (fun _ _ _ h => h) (Or.inl ⟨by rfl, ?_⟩) (by exact hHeld) ?_
    rotate_left
    · intro w hSw; first | (refine exec_load _ (.tmp 7) ?_ (g + 1) ?_ Q (hSw.q.load HQ.out) <;> rfl) | (refine exec_load _ (.tmp 19) ?_ g19 ?_ Q11 (hSw.p.load HQ11.out) <;> rfl)
    try simp only [Act.put]
    try simp only [List.setIfInBounds_toArray]
    try simp only [List.set]
    refine wpAnyH_take (i := 7) (oi := { dst := some 83, op := Go.Op.move (Go.Operand.tmp 2), type := 3, pos := _, after := _, guard := _ }) (v := ?_) rfl (by kernel_rfl) (by kernel_rfl) (by kernel_rfl) (fun _ _ _ h => h) (Or.inl ⟨by rfl, ?_⟩) (by exact hHeld) ?_
    rotate_left
    · intro w hSw; go_simp; try with_reducible rfl
    try simp only [Act.put]
    try simp only [List.setIfInBounds_toArray]
    try simp only [List.set]
    refine wpAnyH_take (i := 8) (oi := { dst := some 84, op := Go.Op.move (Go.Operand.tmp 3), type := 29, pos := _, after := _, guard := _ }) (v := ?_) rfl (by kernel_rfl) (by kernel_rfl) (by kernel_rfl) (fun _ _ _ h => h) (Or.inl ⟨by rfl, ?_⟩) (by exact hHeld) ?_
    rotate_left
    · intro w hSw; go_simp; try with_reducible rfl
    try simp only [Act.put]
    try simp only [List.setIfInBounds_toArray]
    try simp only [List.set]
    refine wpAnyH_ready (rs := [4]) (by kernel_rfl) (by simp) ?_
    refine AllReadyH.cons (o := { dst := some 80, op := Go.Op.call { callee := Go.Callee.value (Go.Operand.func 25), args := #[Go.Operand.tmp 76, Go.Operand.tmp 77, Go.Operand.tmp 78, Go.Operand.tmp 79], argTypes := #[28, 24, 3, 29] }, type := 3, pos := _, after := _, guard := _ }) rfl (fun K hK => ?_) AllReadyH.nil
    go_simp
    go_at_call 25
    refine (HO1.out _ hHeld.s hHeld.f).mono ?_
    rintro e w6 ⟨rfl, a6⟩
    have hS2 := TS.aft hHeld a6
    have A6 := Aft.trans A5 a6
    clear A5
    have A5 := A6
    clear A6 a6
    clear hHeld
    refine hK.out _ _ hS2 (fun hHeld => ?_)
    clear hK K hS2
    try simp only [Act.put]
    try simp only [List.setIfInBounds_toArray]
    try simp only [List.set]
    refine wpAnyH_ready (rs := [9]) (by kernel_rfl) (by simp) ?_
    refine AllReadyH.cons (o := { dst := some 85, op := Go.Op.call { callee := Go.Callee.value (Go.Operand.func 25), args := #[Go.Operand.tmp 81, Go.Operand.tmp 82, Go.Operand.tmp 83, Go.Operand.tmp 84], argTypes := #[28, 24, 3, 29] }, type := 3, pos := _, after := _, guard := _ }) rfl (fun K hK => ?_) AllReadyH.nil
    go_simp
    go_at_call 25
    refine (HO2.out _ hHeld.s hHeld.m).mono ?_
    rintro e w6 ⟨rfl, a6⟩
    have hS2 := TS.aft hHeld a6
    have A6 := Aft.trans A5 a6
    clear A5
    have A5 := A6
    clear A6 a6
    clear hHeld
    refine hK.out _ _ hS2 (fun hHeld => ?_)
    clear hK K hS2
    try simp only [Act.put]
    try simp only [List.setIfInBounds_toArray]
    try simp only [List.set]
    refine wpAnyH_take (i := 10) (oi := { dst := some 20, op := Go.Op.assign (Go.Operand.tmp 80), type := 3, pos := _, after := _, guard := _ }) (v := ?_) rfl (by kernel_rfl) (by kernel_rfl) (by kernel_rfl) (fun _ _ _ h => h) (Or.inl ⟨by rfl, ?_⟩) (by exact hHeld) ?_
    rotate_left
    · intro w hSw; go_simp; try with_reducible rfl
    try simp only [Act.put]
    try simp only [List.setIfInBounds_toArray]
    try simp only [List.set]
    refine wpAnyH_take (i := 11) (oi := { dst := some 21, op := Go.Op.assign (Go.Operand.tmp 85), type := 3, pos := _, after := _, guard := _ }) (v := ?_) rfl (by kernel_rfl) (by kernel_rfl) (by kernel_rfl) (fun _ _ _ h => h) (Or.inl ⟨by rfl, ?_⟩) (by exact hHeld) ?_
    rotate_left
    · intro w hSw; go_simp; try with_reducible rfl
    try simp only [Act.put]
    try simp only [List.setIfInBounds_toArray]
    try simp only [List.set]
    refine wpAnyH_done (by kernel_rfl) ?_ _
    rename_i wz
    have HA12 := Lib.hid (HA11.out.trans A5)
    have y4 := hHeld.q.cell HQ.out
    have RQ12 := Lib.hid hHeld.f
    clear hHeld A5 D5 HA11 HT11
    go_wp2_with fail
    refine (HRC.out _ RQ12.out).mono ?_
    rintro e w13 ⟨rfl, a13⟩
    have HPR1 := Lib.hid (HPR.out w13)
    obtain ⟨hcb, ha2⟩ := HPU.out w13
    have HA13 := Lib.hid ((HA12.out.trans a13).trans ha2)
    have HCB := Lib.hid hcb
    clear a13 ha2 hcb HPR HPU y4 RQ12 HA12
    go_upto_region 13 with (refine wpList_store_rowTo rfl 48 (.tmp 22) (.tmp 88) rfl rfl w13.heap.size Rc rfl rfl _ _ HPR1.out.1 HPR1.out.2.1 HPR1.out.2.2.1 HPR1.out.2.2.2 ?_)
    obtain ⟨W2, hW2⟩ : ∃ W2, (w13.alloc (.cells (ctlC ctlZ).toArray 48)).setRow w13.heap.size Rc = W2 := ⟨_, rfl⟩
    rw [hW2] at HA13 HCB
    rw [show (w13.alloc (.cells #[.bool false, .bool false, .bool false, .bool false, .bool false, .bool false, .int .i64 0, .int .i64 0, .int .i64 0, .int .i64 0] 48)).setRow w13.heap.size Rc = W2 from hW2]
    clear hW2 HPR1
    generalize w13.heap.size = B9 at HCB ⊢
    obtain ⟨q0, q1, q2, q3, q4, q5, q6, q7, q8, q9⟩ := HCB.out.cells
    have hcases : (((j : Int) == 2) = false) ∨ ((((j : Int) == 2) = true) ∧ ¬ d9 ≥ 0) ∨ ((((j : Int) == 2) = true) ∧ d9 ≥ 0) := by
      by_cases h1 : j = 2
      · by_cases h2 : d9 ≥ 0
        · exact Or.inr (Or.inr ⟨by rw [h1]; rfl, h2⟩)
        · exact Or.inr (Or.inl ⟨by rw [h1]; rfl, h2⟩)
      · exact Or.inl (by simp; omega)
    by_cases hvb : vb = 1
    · have b1 : (vb != 1) = false := by rw [hvb]; rfl
      by_cases hva : va = 1
      · have b2 : (va == 1) = true := by rw [hva]; rfl
        clear hva hvb
        rcases hcases with h1 | ⟨h1, h2⟩ | ⟨h1, h2⟩
        all_goals
          go_wp2_with fail
          refine (reuseruns_any _).mono ?_
          rintro e w14 ⟨rfl, a14⟩
          have HA14 := Lib.hid (HA13.out.trans a14)
          clear a14
          go_wp2_with fail
          go_ret
          exact ⟨rfl, HA14.out⟩
      · have b2 : (va == 1) = false := by simpa using hva
        have h3 := (HSTR.out hvb).resolve_left hva
        have h1 : ((j : Int) == 2) = true := by rw [h3.1]; rfl
        have h2 : d9 ≥ 0 := h3.2
        clear hva hvb hcases h3
        go_wp2_with fail
        refine (reuseruns_any _).mono ?_
        rintro e w14 ⟨rfl, a14⟩
        have HA14 := Lib.hid (HA13.out.trans a14)
        clear a14
        go_wp2_with fail
        go_ret
        exact ⟨rfl, HA14.out⟩
    · have b1 : (vb != 1) = true := by simpa using hvb
      clear hvb
      rcases hcases with h1 | ⟨h1, h2⟩ | ⟨h1, h2⟩
      all_goals
        go_wp2_with fail
        refine (reuseruns_any _).mono ?_
        rintro e w14 ⟨rfl, a14⟩
        have HA14 := Lib.hid (HA13.out.trans a14)
        clear a14
        go_wp2_with fail
        go_ret
        exact ⟨rfl, HA14.out⟩

theorem wf_u16_21 {a : Int} (h : (Lit.int .u16 a).wf = true) : ∃ n : Nat, a = (n : Int) ∧ n ≤ 65535 := by
  simp only [Lit.wf, Bool.and_eq_true, decide_eq_true_eq] at h
  have h0 : 0 ≤ a := h.1
  have h1 : a ≤ 65535 := h.2
  exact ⟨a.toNat, by omega, by omega⟩
set_option maxRecDepth 100000 in
theorem walkReuseStricter (w : World) (hsh : w.ShapedOpen Try.prog) {H : Type} {enc : TypeId × Value → H} {base : Nat} {v0 v1 : Value} {d0 d1 : DataW H} {p0 p1 : List MemPlace}
    (hval0 : Value.okWide Try.prog w .any base 28 v0) (k0 : DataW.Trod enc Try.prog w 0 (fun _ => true) true 28 v0 d0 p0)
    (hval1 : Value.okWide Try.prog w .any base 24 v1) (k1 : DataW.Trod enc Try.prog w 0 (fun _ => true) true 24 v1 d1 p1)
    (a1 : Int) (w1 : (Lit.int .i64 a1).wf = true) (x : Nat) (wx : (Lit.float .f64 x).wf = true) (a4 : Int) (w4 : (Lit.int .i64 a4).wf = true) (a5 : Int) (w5 : (Lit.int .u16 a5).wf = true)
    (hk : (DataW.weightsEach Try.prog [28, 24, 3, 29, 3, 43] [(d0 : DataW H), d1, .lit (.int .i64 a1), .lit (.float .f64 x), .lit (.int .i64 a4), .lit (.int .u16 a5)]).all (· ≤ reachBytes) = true) :
    Calls Try.prog 7 #[v0, v1, .int .i64 a1, .float .f64 x, .int .i64 a4, .int .u16 a5] w fun e w' => e = .returned (.bool true) ∧ Aft w w' := by
  obtain ⟨R, st, vq, vs, ask, ca, bd, lq, ls, rfl, hR, hq, hs, bq, bs, hz⟩ := open_entR hval0 k0 (wt_at hk (j := 0) rfl rfl)
  obtain ⟨Q, vr, lr, rfl, hQ, hQ1, hr, br⟩ := open_req21R hval1 k1 (wt_at hk (j := 1) rfl rfl)
  obtain ⟨n, rfl, hn⟩ := wf_u16_21 w5
  have b4 := bounds_i64 w4
  exact reusestricter_any R Q st vq vs vr ask ca a1 a4 n bd x lq ls lr w hR hQ hQ1 hq hs hr bq bs br b4.1 b4.2 hn
end Go.Proofs.Ytdcdckjdloddiaa
