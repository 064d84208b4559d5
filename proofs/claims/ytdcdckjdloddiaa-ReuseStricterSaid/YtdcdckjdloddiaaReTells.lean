/-
  ReuseTells.
-/
import Derived.Test.YtdcdckjdloddiaaReRuns
import Derived.Test.YtdcdckjdloddiaaRReuse
import Derived.Test.YtdcdckjdloddiaaFrLawB
import Derived.Test.YtdcdckjdloddiaaFrGrows
import Derived.Test.YtdcdckjdloddiaaLightB
namespace Go.Proofs.Ytdcdckjdloddiaa
open Go.ChangeShapes Go.WideShapes Go.ChangeAt Go.RowKit
set_option linter.unusedVariables false

structure TR (g : Nat) (R Q : Array Value) (vs vq : Value) (ls lq : List FieldL) (w : World) : Prop where
  b : EB w g R
  q : Q6 w (g + 1) Q
  s : RbF w vs ls
  f : RbF w vq lq
theorem TR.aft {g : Nat} {R Q : Array Value} {vs vq : Value} {ls lq : List FieldL} {w w' : World} (h : TR g R Q vs vq ls lq w) (a : Aft w w') : TR g R Q vs vq ls lq w' :=
  ⟨h.b.aft a, h.q.aft a, h.s.aft a, h.f.aft a⟩
theorem rok_light {l : List FieldL} (h : sumL l ≤ 2000) : ROk l := ⟨by have := sumL_len l; omega, fun f hf => by have := sumL_mem hf; omega⟩
theorem rok_small {lq ls : List FieldL} {n : Nat} (h : smallB lq ls n = true) : ROk ls := by
  unfold smallB at h
  simp only [Bool.and_eq_true, decide_eq_true_eq] at h
  exact rok_light h.2.1

set_option maxHeartbeats 8000000 in
set_option maxRecDepth 100000 in
theorem reusetells_any (R Q : Array Value) (st : Int) (v0 vs vq : Value) (ask ca now : Int) (bd : ByteArray) (x : Nat) (l0 ls lq : List FieldL) (w : World) (hR : EntA R st v0 vs ask ca bd) (hQ : ReqR Q vq) (h0 : RbF w v0 l0) (hs : RbF w vs ls) (hq : RbF w vq lq) (b0 : FieldsLim l0) (bs : FieldsLim ls) (bq : FieldsLim lq) :
    Calls Try.prog 6 #[.agg R, .agg Q, .int .i64 now, .float .f64 x] w fun e w' => e = .returned (.bool true) ∧ Aft w w' := by
  have HSM := Lib.hid (fun w h1 h2 => small_any R st v0 vs ask ca bd l0 ls w hR h1 h2 b0 bs)
  have HLI := Lib.hid (fun w h => light_any vq lq w h bq)
  obtain ⟨hA, hB, hC⟩ := box2_aft w R Q
  have HR := Lib.hid hR.r
  have HQ := Lib.hid hQ
  have HINF := Lib.hid hR.r.info
  have HINQ := Lib.hid hQ.info
  have R0 := Lib.hid (h0.aft hA)
  have RS := Lib.hid (hs.aft hA)
  have RQ := Lib.hid (hq.aft hA)
  have HA := Lib.hid hA
  have HB := Lib.hid hB
  have HC := Lib.hid hC
  obtain ⟨as_, cs, bs_, os, hvs, -⟩ := hs.open
  obtain ⟨aq, cq, bq_, oq, hvq, -⟩ := hq.open
  obtain ⟨sm, hsm⟩ : ∃ sm, smallB l0 ls bd.size = sm := ⟨_, rfl⟩
  rw [hsm] at HSM
  have HX := Lib.hid hsm
  subst hvs hvq
  clear hA hB hC hs hq h0 hR hQ b0 bs bq hsm
  go_enter Try.func6, Try.ntmps6
  go_upto_region 1 with fail
  generalize (w.alloc (.cells R 28)).alloc (.cells Q 24) = W at HA HB HC R0 RS RQ ⊢
  generalize w.heap.size = g at HB HC ⊢
  go_wp2_with (refine wpList_load_row_w rfl 28 (.tmp 4) rfl g rfl _ R (0, 0) _ HB.out Try.underlying28 rfl HINF.out ?_)
  refine (HSM.out _ R0.out RS.out).mono ?_
  rintro e w1 ⟨rfl, a1⟩
  have HT1 := Lib.hid (TR.mk (HB.out.aft a1) (HC.out.aft a1) (RS.out.aft a1) (RQ.out.aft a1))
  have HA1 := Lib.hid (HA.out.trans a1)
  clear a1 HB HC RS RQ HA R0 HSM
  cases sm
  · go_wp2_with fail
    refine (reuseruns_any _).mono ?_
    rintro e w2 ⟨rfl, a2⟩
    have HA2 := Lib.hid (HA1.out.trans a2)
    clear a2
    go_wp2_with fail
    go_ret
    exact ⟨rfl, HA2.out⟩
  have y4 := HT1.out.q.cell HQ.out
  go_wp2_with fail
  refine (HLI.out _ HT1.out.f).mono ?_
  rintro e w2 ⟨rfl, a2⟩
  have HT2 := Lib.hid (HT1.out.aft a2)
  have HA2 := Lib.hid (HA1.out.trans a2)
  clear a2 y4 HT1 HA1 HLI
  by_cases hli : sumL lq ≤ 2000
  rotate_left
  · rw [decide_eq_false hli]
    clear hli
    go_wp2_with fail
    refine (reuseruns_any _).mono ?_
    rintro e w3 ⟨rfl, a3⟩
    have HA3 := Lib.hid (HA2.out.trans a3)
    clear a3
    go_wp2_with fail
    go_ret
    exact ⟨rfl, HA3.out⟩
  rw [decide_eq_true hli]
  have ks := rok_small HX.out
  have kq := rok_light hli
  have HRC := Lib.hid (fun w h => rctl_any (.slice aq lq.length cq) lq w h kq.len kq.val)
  have HOF := Lib.hid (fun w h1 h2 => reuse_any R Q st (.slice as_ ls.length cs) (.slice aq lq.length cq) ask ca now x ls lq w HR.out HQ.out h1 h2 ks.fok kq.fok)
  have HRR := Lib.hid (fun w h1 h2 => rreuse_any R Q st (.slice as_ ls.length cs) (.slice aq lq.length cq) ask ca now x ls lq w HR.out HQ.out h1 h2 ks kq)
  have HNO := Lib.hid (fun w h => none_any Q (.slice aq lq.length cq) lq w HQ.out h kq.fok)
  generalize reuseB (ctlF ls) (ctlF lq) (unsF lq) (ageF ls ask ca now) (lifeF st ls ca x) = RB at HOF HRR
  generalize ctlF lq = d at HRC HNO
  obtain ⟨d0, d1, d2, d3, d4, d5, d6, d7, d8, d9⟩ := d
  have evd : ctlV ⟨d0, d1, d2, d3, d4, d5, d6, d7, d8, d9⟩ = .agg #[.bool d0, .bool d1, .bool d2, .bool d3, .bool d4, .bool d5, .int .i64 d6, .int .i64 d7, .int .i64 d8, .int .i64 d9] := rfl
  rw [evd] at HRC
  obtain ⟨nn, hnn⟩ : ∃ n : Int, (if d5 = true then (4 : Int) else 3) = n := ⟨_, rfl⟩
  simp only at HNO
  rw [hnn] at HNO
  have HNN := Lib.hid hnn
  have hfl := only_fld d0 d1 d2 d3 d4 d5 d6 d7 d8 d9
  have y4 := HT2.out.q.cell HQ.out
  clear hli ks kq evd hnn
  go_wp2_with fail
  refine (HRC.out _ HT2.out.f).mono ?_
  rintro e w3 ⟨rfl, a3⟩
  have HT3 := Lib.hid (HT2.out.aft a3)
  have HA3 := Lib.hid (HA2.out.trans a3)
  clear a3 y4 HT2 HA2 HRC
  go_upto_if 23 with fail
  go_cut [9] (fun v9 wx => ∃ W4 : World, W4 = wx ∧ v9 = .int .i64 nn ∧ Hid (w3 = wx))
  case first =>
    cases d5
    · have HN2 : Hid (nn = 3) := Lib.hid HNN.out.symm
      go_wp2_with fail
      go_meet
      exact ⟨_, rfl, by rw [HN2.out], Lib.hid rfl⟩
    · have HN2 : Hid (nn = 4) := Lib.hid HNN.out.symm
      go_wp2_with fail
      go_meet
      exact ⟨_, rfl, by rw [HN2.out], Lib.hid rfl⟩
  case rest =>
    obtain ⟨W4, hW4, rfl, HW4⟩ := hcut
    obtain rfl := HW4.out
    clear HW4
    subst hW4
    go_upto_region 6 with fail
    have A5 := (Aft.refl W4).drew
    have D5 := Lib.hid (HT3.out.aft A5)
    refine wp_region_held_drew (S := TR g R Q (.slice as_ ls.length cs) (.slice aq lq.length cq) ls lq) (by kernel_rfl) D5.out (fun hHeld => ?_)
    refine wpAnyH_take (i := 0) (oi := { dst := some 24, op := Go.Op.load 28 (Go.Operand.tmp 4), type := 28, pos := _, after := _, guard := _ }) (v := ?_) rfl (by kernel_rfl) (by kernel_rfl) (by kernel_rfl) (fun _ _ _ h => h) (Or.inl ⟨by rfl, ?_⟩) (by exact hHeld) ?_
    rotate_left
    · intro w hSw; refine exec_load _ (.tmp 4) ?_ g ?_ R (hSw.b.load HR.out) <;> rfl
    try simp only [Act.put]
    try simp only [List.setIfInBounds_toArray]
    try simp only [List.set]
    refine wpAnyH_take (i := 1) (oi := { dst := some 25, op := Go.Op.load 24 (Go.Operand.tmp 5), type := 24, pos := _, after := _, guard := _ }) (v := ?_) rfl (by kernel_rfl) (by kernel_rfl) (by kernel_rfl) (fun _ _ _ h => h) (Or.inl ⟨by rfl, ?_⟩) (by exact hHeld) ?_
    rotate_left
    · intro w hSw; refine exec_load _ (.tmp 5) ?_ (g + 1) ?_ Q (hSw.q.load HQ.out) <;> rfl
    try simp only [Act.put]
    try simp only [List.setIfInBounds_toArray]
    try simp only [List.set]
    refine wpAnyH_take (i := 2) (oi := { dst := some 26, op := Go.Op.move (Go.Operand.tmp 2), type := 3, pos := _, after := _, guard := _ }) (v := ?_) rfl (by kernel_rfl) (by kernel_rfl) (by kernel_rfl) (fun _ _ _ h => h) (Or.inl ⟨by rfl, ?_⟩) (by exact hHeld) ?_
    rotate_left
    · intro w hSw; go_simp; try with_reducible rfl
    try simp only [Act.put]
    try simp only [List.setIfInBounds_toArray]
    try simp only [List.set]
    refine wpAnyH_take (i := 3) (oi := { dst := some 27, op := Go.Op.move (Go.Operand.tmp 3), type := 29, pos := _, after := _, guard := _ }) (v := ?_) rfl (by kernel_rfl) (by kernel_rfl) (by kernel_rfl) (fun _ _ _ h => h) (Or.inl ⟨by rfl, ?_⟩) (by exact hHeld) ?_
    rotate_left
    · intro w hSw; go_simp; try with_reducible rfl
    try simp only [Act.put]
    try simp only [List.setIfInBounds_toArray]
    try simp only [List.set]
    refine wpAnyH_take (i := 5) (oi := { dst := some 29, op := Go.Op.load 28 (Go.Operand.tmp 4), type := 28, pos := _, after := _, guard := _ }) (v := ?_) rfl (by kernel_rfl) (by kernel_rfl) (by kernel_rfl) (fun _ _ _ h => h) (Or.inl ⟨by rfl, ?_⟩) (by exact hHeld) ?_
    rotate_left
    · intro w hSw; refine exec_load _ (.tmp 4) ?_ g ?_ R (hSw.b.load HR.out) <;> rfl
    try simp only [Act.put]
    try simp only [List.setIfInBounds_toArray]
    try simp only [List.set]
    refine wpAnyH_take (i := 6) (oi := { dst := some 30, op := Go.Op.load 24 (Go.Operand.tmp 5), type := 24, pos := _, after := _, guard := _ }) (v := ?_) rfl (by kernel_rfl) (by kernel_rfl) (by kernel_rfl) (fun _ _ _ h => h) (Or.inl ⟨by rfl, ?_⟩) (by exact hHeld) ?_
    rotate_left
    · intro w hSw; refine exec_load _ (.tmp 5) ?_ (g + 1) ?_ Q (hSw.q.load HQ.out) <;> rfl
    try simp only [Act.put]
    try simp only [List.setIfInBounds_toArray]
    try simp only [List.set]
    refine wpAnyH_take (i := 7) (oi := { dst := some 31, op := Go.Op.move (Go.Operand.tmp 2), type := 3, pos := _, after := _, guard := _ }) (v := ?_) rfl (by kernel_rfl) (by kernel_rfl) (by kernel_rfl) (fun _ _ _ h => h) (Or.inl ⟨by rfl, ?_⟩) (by exact hHeld) ?_
    rotate_left
    · intro w hSw; go_simp; try with_reducible rfl
    try simp only [Act.put]
    try simp only [List.setIfInBounds_toArray]
    try simp only [List.set]
    refine wpAnyH_take (i := 8) (oi := { dst := some 32, op := Go.Op.move (Go.Operand.tmp 3), type := 29, pos := _, after := _, guard := _ }) (v := ?_) rfl (by kernel_rfl) (by kernel_rfl) (by kernel_rfl) (fun _ _ _ h => h) (Or.inl ⟨by rfl, ?_⟩) (by exact hHeld) ?_
    rotate_left
    · intro w hSw; go_simp; try with_reducible rfl
    try simp only [Act.put]
    try simp only [List.setIfInBounds_toArray]
    try simp only [List.set]
    refine wpAnyH_ready (rs := [4]) (by kernel_rfl) (by simp) ?_
    refine AllReadyH.cons (o := { dst := some 28, op := Go.Op.call { callee := Go.Callee.value (Go.Operand.func 25), args := #[Go.Operand.tmp 24, Go.Operand.tmp 25, Go.Operand.tmp 26, Go.Operand.tmp 27], argTypes := #[28, 24, 3, 29] }, type := 3, pos := _, after := _, guard := _ }) rfl (fun K hK => ?_) AllReadyH.nil
    go_simp
    go_at_call 25
    refine (HOF.out _ hHeld.s hHeld.f).mono ?_
    rintro e w6 ⟨rfl, a6⟩
    have hS2 := TR.aft hHeld a6
    have A6 := Aft.trans A5 a6
    clear A5
    have A5 := A6
    clear A6 a6
    clear hHeld
    refine hK.out _ _ hS2 (fun hHeld => ?_)
    clear hK K hS2
    try simp only [Act.put]
    try simp only [List.setIfInBounds_toArray]
    try simp only [List.set]
    refine wpAnyH_ready (rs := [9]) (by kernel_rfl) (by simp) ?_
    refine AllReadyH.cons (o := { dst := some 33, op := Go.Op.call { callee := Go.Callee.value (Go.Operand.func 26), args := #[Go.Operand.tmp 29, Go.Operand.tmp 30, Go.Operand.tmp 31, Go.Operand.tmp 32], argTypes := #[28, 24, 3, 29] }, type := 3, pos := _, after := _, guard := _ }) rfl (fun K hK => ?_) AllReadyH.nil
    go_simp
    go_at_call 26
    refine (HRR.out _ hHeld.s hHeld.f).mono ?_
    rintro e w6 ⟨rfl, a6⟩
    have hS2 := TR.aft hHeld a6
    have A6 := Aft.trans A5 a6
    clear A5
    have A5 := A6
    clear A6 a6
    clear hHeld
    refine hK.out _ _ hS2 (fun hHeld => ?_)
    clear hK K hS2
    try simp only [Act.put]
    try simp only [List.setIfInBounds_toArray]
    try simp only [List.set]
    refine wpAnyH_take (i := 10) (oi := { dst := some 34, op := Go.Op.binOp Go.BinOp.eql 3 (Go.Operand.tmp 28) (Go.Operand.tmp 33) 3, type := 4, pos := _, after := _, guard := _ }) (v := ?_) rfl (by kernel_rfl) (by kernel_rfl) (by kernel_rfl) (fun _ _ _ h => h) (Or.inl ⟨by rfl, ?_⟩) (by exact hHeld) ?_
    rotate_left
    · intro w hSw; go_simp; try with_reducible rfl
    try simp only [Act.put]
    try simp only [List.setIfInBounds_toArray]
    try simp only [List.set]
    refine wpAnyH_take (i := 11) (oi := { dst := some 35, op := Go.Op.move (Go.Operand.tmp 34), type := 4, pos := _, after := _, guard := _ }) (v := ?_) rfl (by kernel_rfl) (by kernel_rfl) (by kernel_rfl) (fun _ _ _ h => h) (Or.inl ⟨by rfl, ?_⟩) (by exact hHeld) ?_
    rotate_left
    · intro w hSw; go_simp; try with_reducible rfl
    try simp only [Act.put]
    try simp only [List.setIfInBounds_toArray]
    try simp only [List.set]
    refine wpAnyH_take (i := 12) (oi := { dst := some 36, op := Go.Op.load 24 (Go.Operand.tmp 5), type := 24, pos := _, after := _, guard := _ }) (v := ?_) rfl (by kernel_rfl) (by kernel_rfl) (by kernel_rfl) (fun _ _ _ h => h) (Or.inl ⟨by rfl, ?_⟩) (by exact hHeld) ?_
    rotate_left
    · intro w hSw; refine exec_load _ (.tmp 5) ?_ (g + 1) ?_ Q (hSw.q.load HQ.out) <;> rfl
    try simp only [Act.put]
    try simp only [List.setIfInBounds_toArray]
    try simp only [List.set]
    refine wpAnyH_take (i := 14) (oi := { dst := some 38, op := Go.Op.move (Go.Operand.tmp 9), type := 3, pos := _, after := _, guard := _ }) (v := ?_) rfl (by kernel_rfl) (by kernel_rfl) (by kernel_rfl) (fun _ _ _ h => h) (Or.inl ⟨by rfl, ?_⟩) (by exact hHeld) ?_
    rotate_left
    · intro w hSw; go_simp; try with_reducible rfl
    try simp only [Act.put]
    try simp only [List.setIfInBounds_toArray]
    try simp only [List.set]
    refine wpAnyH_ready (rs := [13]) (by kernel_rfl) (by simp) ?_
    refine AllReadyH.cons (o := { dst := some 37, op := Go.Op.call { callee := Go.Callee.value (Go.Operand.func 27), args := #[Go.Operand.tmp 36], argTypes := #[24] }, type := 3, pos := _, after := _, guard := _ }) rfl (fun K hK => ?_) AllReadyH.nil
    go_simp
    go_at_call 27
    refine (HNO.out _ hHeld.f).mono ?_
    rintro e w6 ⟨rfl, a6⟩
    have hS2 := TR.aft hHeld a6
    have A6 := Aft.trans A5 a6
    clear A5
    have A5 := A6
    clear A6 a6
    clear hHeld
    refine hK.out _ _ hS2 (fun hHeld => ?_)
    clear hK K hS2
    try simp only [Act.put]
    try simp only [List.setIfInBounds_toArray]
    try simp only [List.set]
    refine wpAnyH_take (i := 15) (oi := { dst := some 39, op := Go.Op.binOp Go.BinOp.eql 3 (Go.Operand.tmp 37) (Go.Operand.tmp 38) 3, type := 4, pos := _, after := _, guard := _ }) (v := ?_) rfl (by kernel_rfl) (by kernel_rfl) (by kernel_rfl) (fun _ _ _ h => h) (Or.inl ⟨by rfl, ?_⟩) (by exact hHeld) ?_
    rotate_left
    · intro w hSw; go_simp; try with_reducible rfl
    try simp only [Act.put]
    try simp only [List.setIfInBounds_toArray]
    try simp only [List.set]
    refine wpAnyH_take (i := 16) (oi := { dst := some 40, op := Go.Op.pick (Go.Operand.tmp 35) (Go.Operand.tmp 39) (Go.Operand.const (Go.Value.bool false)), type := 4, pos := _, after := _, guard := _ }) (v := ?_) rfl (by kernel_rfl) (by kernel_rfl) (by kernel_rfl) (fun _ _ _ h => h) (Or.inl ⟨by rfl, ?_⟩) (by exact hHeld) ?_
    rotate_left
    · intro w hSw; go_simp; try with_reducible rfl
    try simp only [Act.put]
    try simp only [List.setIfInBounds_toArray]
    try simp only [List.set]
    refine wpAnyH_take (i := 17) (oi := { dst := some 41, op := Go.Op.move (Go.Operand.tmp 40), type := 4, pos := _, after := _, guard := _ }) (v := ?_) rfl (by kernel_rfl) (by kernel_rfl) (by kernel_rfl) (fun _ _ _ h => h) (Or.inl ⟨by rfl, ?_⟩) (by exact hHeld) ?_
    rotate_left
    · intro w hSw; go_simp; try with_reducible rfl
    try simp only [Act.put]
    try simp only [List.setIfInBounds_toArray]
    try simp only [List.set]
    refine wpAnyH_ready (rs := [18]) (by kernel_rfl) (by simp) ?_
    refine AllReadyH.cons (o := { dst := some 42, op := Go.Op.call { callee := Go.Callee.value (Go.Operand.func 23), args := #[], argTypes := #[] }, type := 4, pos := _, after := _, guard := _ }) rfl (fun K hK => ?_) AllReadyH.nil
    go_simp
    go_at_call 23
    refine (reuseruns_any _).mono ?_
    rintro e w6 ⟨rfl, a6⟩
    have hS2 := TR.aft hHeld a6
    have A6 := Aft.trans A5 a6
    clear A5
    have A5 := A6
    clear A6 a6
    clear hHeld
    refine hK.out _ _ hS2 (fun hHeld => ?_)
    clear hK K hS2
    try simp only [Act.put]
    try simp only [List.setIfInBounds_toArray]
    try simp only [List.set]
    refine wpAnyH_take (i := 19) (oi := { dst := some 43, op := Go.Op.pick (Go.Operand.tmp 41) (Go.Operand.tmp 42) (Go.Operand.const (Go.Value.bool false)), type := 4, pos := _, after := _, guard := _ }) (v := ?_) rfl (by kernel_rfl) (by kernel_rfl) (by kernel_rfl) (fun _ _ _ h => h) (Or.inl ⟨by rfl, ?_⟩) (by exact hHeld) ?_
    rotate_left
    · intro w hSw; go_simp; try with_reducible rfl
    try simp only [Act.put]
    try simp only [List.setIfInBounds_toArray]
    try simp only [List.set]
    refine wpAnyH_take (i := 20) (oi := { dst := some 8, op := Go.Op.assign (Go.Operand.tmp 43), type := 4, pos := _, after := _, guard := _ }) (v := ?_) rfl (by kernel_rfl) (by kernel_rfl) (by kernel_rfl) (fun _ _ _ h => h) (Or.inl ⟨by rfl, ?_⟩) (by exact hHeld) ?_
    rotate_left
    · intro w hSw; go_simp; try with_reducible rfl
    try simp only [Act.put]
    try simp only [List.setIfInBounds_toArray]
    try simp only [List.set]
    refine wpAnyH_done (by kernel_rfl) ?_ _
    have HA9 := Lib.hid (HA3.out.trans A5)
    clear hHeld A5 D5 HA3
    go_wp2_with fail
    go_ret
    exact ⟨rfl, HA9.out⟩

set_option maxRecDepth 100000 in
/-- A request that came in. -/
theorem open_req21R {H : Type} {enc : TypeId × Value → H} {W : World} {base : Nat} {v : Value} {d : DataW H} {p : List MemPlace} (hval : Value.okWide Try.prog W .any base 24 v) (h : DataW.Trod enc Try.prog W 0 (fun _ => true) true 24 v d p) (hw : ∀ n ∈ d.weights Try.prog 24, n ≤ reachBytes) :
    ∃ (Q : Array Value) (vq : Value) (l : List FieldL), v = .agg Q ∧ ReqR Q vq ∧ Q.all (·.oneCell') = true ∧ RbF W vq l ∧ FieldsLim l := by
  obtain ⟨m, x1, x2, x3, vq, n, l, rfl, -, h1, h2, -⟩ := open_reqR hval h hw
  obtain ⟨a, c, b, o, rfl, -⟩ := h1.open
  exact ⟨_, _, l, rfl, reqV21_ok m x1 x2 x3 _ n, by simp [Value.oneCell'], h1, h2⟩
set_option maxRecDepth 100000 in
theorem walkReuseTells (w : World) (hsh : w.ShapedOpen Try.prog) {H : Type} {enc : TypeId × Value → H} {base : Nat} {v0 v1 : Value} {d0 d1 : DataW H} {p0 p1 : List MemPlace}
    (hval0 : Value.okWide Try.prog w .any base 28 v0) (k0 : DataW.Trod enc Try.prog w 0 (fun _ => true) true 28 v0 d0 p0)
    (hval1 : Value.okWide Try.prog w .any base 24 v1) (k1 : DataW.Trod enc Try.prog w 0 (fun _ => true) true 24 v1 d1 p1)
    (a1 : Int) (w1 : (Lit.int .i64 a1).wf = true) (x : Nat) (wx : (Lit.float .f64 x).wf = true) (hk : (DataW.weightsEach Try.prog [28, 24, 3, 29] [(d0 : DataW H), d1, .lit (.int .i64 a1), .lit (.float .f64 x)]).all (· ≤ reachBytes) = true) :
    Calls Try.prog 6 #[v0, v1, .int .i64 a1, .float .f64 x] w fun e w' => e = .returned (.bool true) ∧ Aft w w' := by
  obtain ⟨R, st, vq, vs, ask, ca, bd, lq, ls, rfl, hR, hq, hs, bq, bs, hz⟩ := open_entR hval0 k0 (wt_at hk (j := 0) rfl rfl)
  obtain ⟨Q, vr, lr, rfl, hQ, -, hr, br⟩ := open_req21R hval1 k1 (wt_at hk (j := 1) rfl rfl)
  exact reusetells_any R Q st vq vs vr ask ca a1 bd x lq ls lr w hR hQ hq hs hr bq bs br
end Go.Proofs.Ytdcdckjdloddiaa
