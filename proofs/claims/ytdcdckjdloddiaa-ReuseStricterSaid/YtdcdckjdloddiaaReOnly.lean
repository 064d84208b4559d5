/-
  ReuseOnly.
-/
import Derived.Test.YtdcdckjdloddiaaReTells
import Derived.Test.YtdcdckjdloddiaaFlP
namespace Go.Proofs.Ytdcdckjdloddiaa
open Go.ChangeShapes Go.WideShapes Go.ChangeAt Go.RowKit
set_option linter.unusedVariables false

theorem RbF.put21 {w : World} {v : Value} {l : List FieldL} (h : RbF w v l) (p : Addr) (a : Option Addr) (n c : Nat) (hp : w.cell? p = some (.slice a n c)) (u : Value) : RbF (w.setCell p u) v l := by
  rcases h with h | ⟨b, off, cap, e1, h1, h2, h3, h4⟩
  · exact Or.inl h
  · refine Or.inr ⟨b, off, cap, e1, h1, h2, by rw [World.size_setCell]; exact h3, fun i hi => ?_⟩
    obtain ⟨c1, c2⟩ := h4 i hi
    have key : ∀ (q : Addr) (x : List UInt8), w.cell? q = some (strV x) → (w.setCell p u).cell? q = some (strV x) := fun q x hq => by
      rw [World.cell?_setCell_other _ _ _ _ (fun e => by subst e; rw [hp] at hq; cases hq)]
      exact hq
    exact ⟨key _ _ c1, key _ _ c2⟩
theorem fok_more {l : List FieldL} (h : sumL l ≤ 2000) (f : FieldL) (hf : f.2.length ≤ 2000) : FOk (l ++ [f]) := by
  have hl := sumL_len l
  have hall : ∀ x ∈ l ++ [f], x.2.length ≤ 2000 := fun x hx => by
    rcases List.mem_append.1 hx with hx | hx
    · have := sumL_mem hx; omega
    · obtain rfl : x = f := by simpa using hx
      exact hf
  refine ⟨by simp; omega, fun name => ?_⟩
  have h1 : (valsF name (l ++ [f])).length ≤ (l ++ [f]).length := by
    unfold valsF
    rw [List.length_map]
    exact List.length_filter_le _ _
  have h2 : ∀ x ∈ valsF name (l ++ [f]), x.length ≤ 2000 := by
    intro x hx
    unfold valsF at hx
    obtain ⟨y, hy, rfl⟩ := List.mem_map.1 hx
    exact hall y (List.mem_filter.1 hy).1
  have h3 := join_len19 _ h2
  rw [List.length_append, List.length_singleton] at h1
  omega
theorem empty_push21 {w2 w4 : World} (g4 : (w2.alloc (.cells #[] 38)).grownBy w4 (Value.slice (some ⟨w2.heap.size, 0, none⟩) 0 0).ownBlock) : Aft w2 w4 :=
  pushF_below ((Below.refl _ _).alloc (Nat.le_refl _) _) (OwnF.empty w2 w2.heap.size (Nat.le_refl _)) g4 (Nat.le_refl _) (le_alloc (Nat.le_refl _) _)
theorem EB.put21 {w : World} {g : Nat} {R : Array Value} (h : EB w g R) (i : Nat) (v : Value) : EB (w.setCell ⟨g + 1, i, none⟩ v) g R := by
  unfold EB
  rw [heap_setCell_other w ⟨g + 1, i, none⟩ g v (fun e => by simp at e)]
  exact h
theorem Q6.put21 {w : World} {g : Nat} {Q : Array Value} (h : Q6 w g Q) (i : Nat) (v : Value) : Q6 (w.setCell ⟨g, i, none⟩ v) g (Q.setIfInBounds i v) := by
  unfold Q6
  rw [heap_setCell_same w g i _ _ v h]
theorem ReqR.put21 {Q : Array Value} {v : Value} (h : ReqR Q v) (u : Value) : ReqR (Q.setIfInBounds 4 u) u :=
  ⟨by rw [Array.size_setIfInBounds]; exact h.size, by rw [Array.getElem?_setIfInBounds_self_of_lt (by rw [h.size]; decide)]⟩
theorem box_of (w : World) (R Q : Array Value) : ∃ (W : World) (g : Nat), (w.alloc (.cells R 28)).alloc (.cells Q 24) = W ∧ w.heap.size = g ∧ Aft w W ∧ EB W g R ∧ Q6 W (g + 1) Q := by
  obtain ⟨h1, h2, h3⟩ := box2_aft w R Q
  exact ⟨_, _, rfl, rfl, h1, h2, h3⟩

set_option maxHeartbeats 16000000 in
set_option maxRecDepth 100000 in
theorem reuseonly_any (R Q : Array Value) (st : Int) (v0 vs vq : Value) (ask ca now : Int) (bd : ByteArray) (x : Nat) (l0 ls lq : List FieldL) (w : World) (hR : EntA R st v0 vs ask ca bd) (hQ : ReqR Q vq) (h0 : RbF w v0 l0) (hs : RbF w vs ls) (hq : RbF w vq lq) (b0 : FieldsLim l0) (bs : FieldsLim ls) (bq : FieldsLim lq) :
    Calls Try.prog 8 #[.agg R, .agg Q, .int .i64 now, .float .f64 x] w fun e w' => e = .returned (.bool true) ∧ Aft w w' := by
  have HSM := Lib.hid (fun w h1 h2 => small_any R st v0 vs ask ca bd l0 ls w hR h1 h2 b0 bs)
  have HLI := Lib.hid (fun w h => light_any vq lq w h bq)
  obtain ⟨W, g, hW, hg, hA, hB, hC⟩ := box_of w R Q
  have HR := Lib.hid hR.r
  have HQ := Lib.hid hQ
  have HINF := Lib.hid hR.r.info
  have HINQ := Lib.hid hQ.info
  have R0 := Lib.hid (h0.aft hA)
  have RS := Lib.hid hs
  have RQ := Lib.hid hq
  have HA := Lib.hid hA
  have HB := Lib.hid hB
  have HC := Lib.hid hC
  have HG := Lib.hid hg
  obtain ⟨as_, cs, bs_, os, hvs, -⟩ := hs.open
  obtain ⟨aq, cq, bq_, oq, hvq, -⟩ := hq.open
  obtain ⟨sm, hsm⟩ : ∃ sm, smallB l0 ls bd.size = sm := ⟨_, rfl⟩
  rw [hsm] at HSM
  have HX := Lib.hid hsm
  subst hvs hvq
  clear hA hB hC hs hq h0 hR hQ b0 bs bq hsm
  go_enter Try.func8, Try.ntmps8
  go_upto_region 1 with fail
  clear hW hg
  go_wp2_with (refine wpList_load_row_w rfl 28 (.tmp 4) rfl g rfl _ R (0, 0) _ HB.out Try.underlying28 rfl HINF.out ?_)
  refine (HSM.out _ R0.out (RS.out.aft HA.out)).mono ?_
  rintro e w1 ⟨rfl, a1⟩
  have HB1 := Lib.hid (HB.out.aft a1)
  have HC1 := Lib.hid (HC.out.aft a1)
  have HA1 := Lib.hid (HA.out.trans a1)
  clear a1 HB HC HA R0 HSM
  cases sm
  · go_wp2_with fail
    refine (reuseruns_any _).mono ?_
    rintro e w2 ⟨rfl, a2⟩
    have HA2 := Lib.hid (HA1.out.trans a2)
    clear a2
    go_wp2_with fail
    go_ret
    exact ⟨rfl, HA2.out⟩
  have y4 := HC1.out.cell HQ.out
  go_wp2_with fail
  refine (HLI.out _ (RQ.out.aft HA1.out)).mono ?_
  rintro e w2 ⟨rfl, a2⟩
  have HB2 := Lib.hid (HB1.out.aft a2)
  have HC2 := Lib.hid (HC1.out.aft a2)
  have HA2 := Lib.hid (HA1.out.trans a2)
  clear a2 y4 HB1 HC1 HA1 HLI
  by_cases hli : sumL lq ≤ 2000
  rotate_left
  · rw [decide_eq_false hli]
    clear hli
    go_wp2_with fail
    refine (reuseruns_any _).mono ?_
    rintro e w3 ⟨rfl, a3⟩
    have HA3 := Lib.hid (HA2.out.trans a3)
    clear a3
    go_wp2_with fail
    go_ret
    exact ⟨rfl, HA3.out⟩
  rw [decide_eq_true hli]
  have HLI := Lib.hid hli
  have HKS := Lib.hid (rok_small HX.out).fok
  obtain ⟨J, hJ⟩ : ∃ J : ByteArray, Lib.join (valsF nCC lq) [44, 32] = J.data.toList := ⟨⟨(Lib.join (valsF nCC lq) [44, 32]).toArray⟩, rfl⟩
  have HRA := Lib.hid (fun w h => rall_j (.slice aq lq.length cq) lq w h hli J hJ)
  obtain ⟨so, hso⟩ : ∃ o, (splF J.data.toList).isSome = o := ⟨_, rfl⟩
  have HRS := Lib.hid (fun w => rsplit_b J w (join_sz hli hJ) _ hso)
  have HOS : Hid (so = true → ∃ P, splF (Lib.join (valsF nCC lq) [44, 32]) = some P) := Lib.hid (fun h => by rw [hJ]; rw [h] at hso; exact Option.isSome_iff_exists.1 hso)
  have y4 := HC2.out.cell HQ.out
  clear hJ hso hli
  go_wp2_with fail
  refine (HRA.out _ (RQ.out.aft HA2.out)).mono ?_
  rintro e w3 ⟨j3, rfl, a3⟩
  have HB3 := Lib.hid (HB2.out.aft a3)
  have HC3 := Lib.hid (HC2.out.aft a3)
  have HA3 := Lib.hid (HA2.out.trans a3)
  clear a3 y4 HB2 HC2 HA2 HRA
  go_wp2_with fail
  refine (HRS.out _).mono ?_
  rintro e w4 ⟨v4, rfl, a4⟩
  have HB4 := Lib.hid (HB3.out.aft a4)
  have HC4 := Lib.hid (HC3.out.aft a4)
  have HA4 := Lib.hid (HA3.out.trans a4)
  clear a4 HB3 HC3 HA3 HRS
  cases so
  · go_wp2_with fail
    refine (reuseruns_any _).mono ?_
    rintro e w5 ⟨rfl, a5⟩
    have HA5 := Lib.hid (HA4.out.trans a5)
    clear a5
    go_wp2_with fail
    go_ret
    exact ⟨rfl, HA5.out⟩
  obtain ⟨P, hP⟩ := HOS.out rfl
  have hctl : ctlF (lq ++ [(nCC, nOnly)]) = ctlJoin (ctlF lq) (moreE 3 0) := by
    rw [ctl_app hP (bare_spl (n := nOnly) (by decide +kernel))]
    exact congrArg (ctlJoin (ctlF lq)) (ctl_more 3 0 (by decide))
  have hon : (ctlF (lq ++ [(nCC, nOnly)])).on = true := by rw [hctl]; exact only_app _ 0
  have hfk : FOk (lq ++ [(nCC, nOnly)]) := fok_more HLI.out (nCC, nOnly) (by decide)
  have HOF := Lib.hid (fun Q v w hQ h1 h2 => reuse_any R Q st (.slice as_ ls.length cs) v ask ca now x ls (lq ++ [(nCC, nOnly)]) w HR.out hQ h1 h2 HKS.out hfk)
  have HNO := Lib.hid (fun Q v w hQ h => none_any Q v (lq ++ [(nCC, nOnly)]) w hQ h hfk)
  rw [if_pos hon] at HNO
  have hro := reuse_only (c := ctlF ls) hon (unsF (lq ++ [(nCC, nOnly)])) (ageF ls ask ca now) (lifeF st ls ca x)
  generalize reuseB (ctlF ls) (ctlF (lq ++ [(nCC, nOnly)])) (unsF (lq ++ [(nCC, nOnly)])) (ageF ls ask ca now) (lifeF st ls ca x) = rb at HOF hro
  have HLL : Hid (([] : List FieldL).length + lq.length ≤ 1000000000000 ∧ lq.length + 1 ≤ 1000000000000) := Lib.hid (by have := sumL_len lq; have := HLI.out; simp; omega)
  have y4 := HC4.out.cell HQ.out
  have hal := (Aft.refl w4).alloc (.cells #[] 38)
  have y4b := (HC4.out.aft hal).cell HQ.out
  have HE := Lib.hid (OwnF.empty w4 w4.heap.size (Nat.le_refl _))
  have HRX := Lib.hid (RQ.out.aft (HA4.out.trans hal))
  clear hP hctl hon hfk hal HOS
  go_wp2_with (at_builtin; refine wpList_pushesF rfl (.tmp 38) (.tmp 40) rfl w4.heap.size _ _ [] lq rfl HE.out rfl HRX.out HLL.out.1 (le_alloc (Nat.le_refl _) _) ?_; intro v5 w5 o5 g5)
  have hA5 := empty_push21 g5
  rw [List.nil_append] at o5
  have HO5 := Lib.hid o5
  have HB5 := Lib.hid (HB4.out.aft hA5)
  have HC5 := Lib.hid (HC4.out.aft hA5)
  have HA5 := Lib.hid (HA4.out.trans hA5)
  have HZ5 := Lib.hid hA5.to.size
  have HWB := Lib.hid HA4.out.to.size
  have HGB := Lib.hid HC4.out.lt
  clear hA5 o5 g5 y4 y4b HE HRX HB4 HC4 HA4
  generalize hB9 : w4.heap.size = B9 at HO5 HZ5 HWB HGB
  clear hB9
  refine (of21_any _ _ _).mono ?_
  rintro e w6 ⟨rfl, a6⟩
  have HO6 := Lib.hid (HO5.out.aft (a6.alloc (.cells #[.string ⟨nCC.toArray⟩, .string ⟨nOnly.toArray⟩] 38)))
  have HB6 := Lib.hid (HB5.out.aft (a6.alloc (.cells #[.string ⟨nCC.toArray⟩, .string ⟨nOnly.toArray⟩] 38)))
  have HC6 := Lib.hid (HC5.out.aft (a6.alloc (.cells #[.string ⟨nCC.toArray⟩, .string ⟨nOnly.toArray⟩] 38)))
  have HA6 := Lib.hid (HA5.out.trans (a6.alloc (.cells #[.string ⟨nCC.toArray⟩, .string ⟨nOnly.toArray⟩] 38)))
  have HZ6 := Lib.hid (Nat.le_trans HZ5.out (a6.alloc (.cells #[.string ⟨nCC.toArray⟩, .string ⟨nOnly.toArray⟩] 38)).to.size)
  clear a6 HO5 HB5 HC5 HA5 HZ5
  go_upto_region 8 with (at_builtin; refine wpList_pushesF rfl (.tmp 41) (.tmp 43) rfl B9 _ _ lq [(nCC, nOnly)] rfl HO6.out rfl (rbF_one19 ⟨#[99, 97, 99, 104, 101, 45, 99, 111, 110, 116, 114, 111, 108]⟩ ⟨#[111, 110, 108, 121, 45, 105, 102, 45, 99, 97, 99, 104, 101, 100]⟩ w6) HLL.out.2 HZ6.out ?_; intro v7 w7 o7 g7; obtain ⟨a7, k7, hv7, -⟩ := o7.slice; subst hv7; have hA7 := pushF_below HA6.out HO6.out g7 HWB.out HZ6.out; have hD7 := pushF_below (Below.refl B9 _) HO6.out g7 (Nat.le_refl _) HZ6.out; have q7 : Q6 w7 (g + 1) Q := (hD7.block (g + 1) HGB.out).trans HC6.out; have b7 : EB w7 g R := (hD7.block g (Nat.lt_of_succ_lt HGB.out)).trans HB6.out; have y7 := q7.cell HQ.out; have f7 := frozen_of_row w7 (g + 1) 4 _ _ q7)
  have HQ8 := Lib.hid (HQ.out.put21 (.slice a7 (lq ++ [(nCC, nOnly)]).length k7))
  have HC8 := Lib.hid (q7.put21 4 (.slice a7 (lq ++ [(nCC, nOnly)]).length k7))
  have HB8 := Lib.hid (b7.put21 4 (.slice a7 (lq ++ [(nCC, nOnly)]).length k7))
  have HF8 := Lib.hid (o7.rb.put21 ⟨g + 1, 4, none⟩ _ _ _ y7 (.slice a7 (lq ++ [(nCC, nOnly)]).length k7))
  have HA8 : Hid (Aft w (w7.setCell ⟨g + 1, 4, none⟩ (.slice a7 (lq ++ [(nCC, nOnly)]).length k7))) := Lib.hid (bset hA7 (g + 1) 4 (.slice a7 (lq ++ [(nCC, nOnly)]).length k7) (by have := HG.out; omega))
  have HS8 := Lib.hid (RS.out.aft HA8.out)
  clear hA7 hD7 q7 b7 y7 f7 o7 g7 HO6 HB6 HC6 HA6 HZ6 HWB HGB
  have hlen : (lq ++ [(nCC, nOnly)]).length = lq.length + 1 := by rw [List.length_append]; rfl
  rw [hlen] at HQ8 HC8 HB8 HF8 HA8 HS8
  clear hlen
  generalize w7.setCell ⟨g + 1, 4, none⟩ (.slice a7 (lq.length + 1) k7) = W8 at HC8 HB8 HF8 HA8 HS8 ⊢
  generalize Q.setIfInBounds 4 (.slice a7 (lq.length + 1) k7) = Q8 at HQ8 HC8
  generalize Value.slice a7 (lq.length + 1) k7 = vn at HQ8 HF8 ⊢
  have HINQ8 := Lib.hid HQ8.out.info
  have HO8 := Lib.hid (HOF.out Q8 vn)
  have HN8 := Lib.hid (HNO.out Q8 vn)
  clear HOF HNO
  go_wp2_with (first | (refine wpList_load_row_w rfl 28 (.tmp 4) rfl g rfl _ R (0, 0) _ HB8.out Try.underlying28 rfl HINF.out ?_) | (refine wpList_load_row_w rfl 24 (.tmp 5) rfl (g + 1) rfl _ Q8 (0, 0) _ HC8.out Try.underlying24 rfl HINQ8.out ?_))
  refine (HO8.out _ HQ8.out HS8.out HF8.out).mono ?_
  rintro e w9 ⟨rfl, a9⟩
  have HC9 := Lib.hid (HC8.out.aft a9)
  have HF9 := Lib.hid (HF8.out.aft a9)
  have HA9 := Lib.hid (HA8.out.trans a9)
  clear a9 HC8 HF8 HA8 HS8 HB8 HO8
  rcases hro with rfl | rfl
  all_goals
    go_wp2_with (refine wpList_load_row_w rfl 24 (.tmp 5) rfl (g + 1) rfl _ Q8 (0, 0) _ HC9.out Try.underlying24 rfl HINQ8.out ?_)
    refine (HN8.out _ HQ8.out HF9.out).mono ?_
    rintro e w10 ⟨rfl, a10⟩
    have HA10 := Lib.hid (HA9.out.trans a10)
    clear a10
    go_wp2_with fail
    refine (reuseruns_any _).mono ?_
    rintro e w11 ⟨rfl, a11⟩
    have HA11 := Lib.hid (HA10.out.trans a11)
    clear a11
    go_wp2_with fail
    go_ret
    exact ⟨rfl, HA11.out⟩

set_option maxRecDepth 100000 in
theorem walkReuseOnly (w : World) (hsh : w.ShapedOpen Try.prog) {H : Type} {enc : TypeId × Value → H} {base : Nat} {v0 v1 : Value} {d0 d1 : DataW H} {p0 p1 : List MemPlace}
    (hval0 : Value.okWide Try.prog w .any base 28 v0) (k0 : DataW.Trod enc Try.prog w 0 (fun _ => true) true 28 v0 d0 p0)
    (hval1 : Value.okWide Try.prog w .any base 24 v1) (k1 : DataW.Trod enc Try.prog w 0 (fun _ => true) true 24 v1 d1 p1)
    (a1 : Int) (w1 : (Lit.int .i64 a1).wf = true) (x : Nat) (wx : (Lit.float .f64 x).wf = true) (hk : (DataW.weightsEach Try.prog [28, 24, 3, 29] [(d0 : DataW H), d1, .lit (.int .i64 a1), .lit (.float .f64 x)]).all (· ≤ reachBytes) = true) :
    Calls Try.prog 8 #[v0, v1, .int .i64 a1, .float .f64 x] w fun e w' => e = .returned (.bool true) ∧ Aft w w' := by
  obtain ⟨R, st, vq, vs, ask, ca, bd, lq, ls, rfl, hR, hq, hs, bq, bs, hz⟩ := open_entR hval0 k0 (wt_at hk (j := 0) rfl rfl)
  obtain ⟨Q, vr, lr, rfl, hQ, -, hr, br⟩ := open_req21R hval1 k1 (wt_at hk (j := 1) rfl rfl)
  exact reuseonly_any R Q st vq vs vr ask ca a1 bd x lq ls lr w hR hQ hq hs hr bq bs br
end Go.Proofs.Ytdcdckjdloddiaa
