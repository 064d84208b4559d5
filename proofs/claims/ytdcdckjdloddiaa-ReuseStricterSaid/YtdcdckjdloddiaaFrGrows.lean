/-
  FreshGrows.
-/
import Derived.Test.YtdcdckjdloddiaaFrRuns
import Derived.Test.YtdcdckjdloddiaaWithin
namespace Go.Proofs.Ytdcdckjdloddiaa
open Go.ChangeShapes Go.WideShapes Go.ChangeAt Go.RowKit
set_option linter.unusedVariables false

theorem sumL_bulk19 (l : List FieldL) : sumL l ≤ bulkF l := by
  induction l with
  | nil => simp [sumL]
  | cons f l ih =>
    have e : bulkF (f :: l) = f.1.length + f.2.length + 3 + bulkF l := by simp [bulkF]
    rw [e, sumL_cons]
    omega
theorem fok_of_small {lq ls : List FieldL} {n : Nat} (h : smallB lq ls n = true) : FOk ls := by
  unfold smallB at h
  simp only [Bool.and_eq_true, decide_eq_true_eq] at h
  exact fok_small (by have := sumL_len ls; omega) (fun f hf => by have := sumL_mem hf; omega)

set_option maxHeartbeats 8000000 in
set_option maxRecDepth 100000 in
theorem freshgrows_any (R : Array Value) (st : Int) (vq vs : Value) (ask ca : Int) (bd : ByteArray) (lq ls : List FieldL) (a b : Int) (x : Nat) (w : World) (hR : EntA R st vq vs ask ca bd) (hq : RbF w vq lq) (hs : RbF w vs ls) (bq : FieldsLim lq) (bs : FieldsLim ls)
    (a0 : -9223372036854775808 ≤ a) (a1 : a ≤ 9223372036854775807) (b0 : -9223372036854775808 ≤ b) (b1 : b ≤ 9223372036854775807) :
    Calls Try.prog 3 #[.agg R, .int .i64 a, .int .i64 b, .float .f64 x] w fun e w' => e = .returned (.bool true) ∧ Aft w w' := by
  have HSM := Lib.hid (fun w h1 h2 => small_any R st vq vs ask ca bd lq ls w hR h1 h2 bq bs)
  have HWA := Lib.hid (fun w => within_any a 0 2147483647 a0 a1 (by decide) (by decide) (by decide) w)
  have HWB := Lib.hid (fun w => within_any b 0 2147483647 b0 b1 (by decide) (by decide) (by decide) w)
  have hA : Aft w (w.alloc (.cells R 28)) := (Aft.refl w).alloc _
  have hB : EB (w.alloc (.cells R 28)) w.heap.size R := heap_alloc_new w _
  have HR := Lib.hid hR.r
  have HINF := Lib.hid hR.r.info
  have HQ := Lib.hid (hq.aft hA)
  have HS := Lib.hid (hs.aft hA)
  have HA := Lib.hid hA
  have HB := Lib.hid hB
  obtain ⟨sm, hsm⟩ : ∃ sm, smallB lq ls bd.size = sm := ⟨_, rfl⟩
  rw [hsm] at HSM
  have HX := Lib.hid hsm
  clear hA hB hR hq hs bq bs a0 a1 b0 b1 hsm
  go_enter Try.func3, Try.ntmps3
  go_upto_region 1 with fail
  generalize w.heap.size = g at HB ⊢
  generalize w.alloc (.cells R 28) = W at HA HB HQ HS ⊢
  go_wp2_with (refine wpList_load_row_w rfl 28 (.tmp 4) rfl g rfl _ R (0, 0) _ HB.out Try.underlying28 rfl HINF.out ?_)
  refine (HSM.out _ HQ.out HS.out).mono ?_
  rintro e w1 ⟨rfl, a1⟩
  have HB1 := Lib.hid (HB.out.aft a1)
  have HS1 := Lib.hid (HS.out.aft a1)
  have HA1 := Lib.hid (HA.out.trans a1)
  clear a1 HB HQ HS HA
  cases sm
  · go_wp2_with fail
    refine (freshruns_any _).mono ?_
    rintro e w2 ⟨rfl, a2⟩
    have HA2 := Lib.hid (HA1.out.trans a2)
    clear a2
    go_wp2_with fail
    go_ret
    exact ⟨rfl, HA2.out⟩
  have hfk := fok_of_small HX.out
  have HLF := Lib.hid (fun w h => lifetime_any R st vs ask ca ls x w HR.out h hfk)
  have HAG := Lib.hid (fun now w h => age_any R st vs ask ca now ls w HR.out h hfk)
  go_wp2_with fail
  refine (HWA.out _).mono ?_
  rintro e w2 ⟨m, rfl, m0, m1, rfl⟩
  go_wp2_with fail
  refine (HWB.out _).mono ?_
  rintro e w2 ⟨n, rfl, n0, n1, rfl⟩
  obtain ⟨lo, hlo⟩ : ∃ lo, min m n = lo := ⟨_, rfl⟩
  obtain ⟨hi, hhi⟩ : ∃ hi, max m n = hi := ⟨_, rfl⟩
  have e1 : 0 ≤ lo ∧ lo ≤ hi ∧ hi ≤ 2147483647 := by omega
  have g1 := age_grows (asked := ask) (came := ca) (datedF_bd ls ca) (toldF_bd ls) e1.1 e1.2.1 e1.2.2
  have g2 := age_first (asked := ask) (came := ca) (datedF_bd ls ca) (toldF_bd ls) e1.1
  have g3 := ageF_bd ls ask ca (-9223372036854775808)
  have g4 := ageF_bd ls ask ca lo
  have g5 := ageF_bd ls ask ca hi
  have g6 := lifeF_bd st ls ca x
  have HX1 := Lib.hid (HAG.out lo)
  have HX2 := Lib.hid (HAG.out hi)
  have HX3 := Lib.hid (HAG.out (-9223372036854775808))
  unfold ageF at g3 g4 g5 HX1 HX2 HX3
  generalize ageB (datedF ls ca) (toldF ls) ask ca lo = xl at g1 g2 g4 HX1
  generalize ageB (datedF ls ca) (toldF ls) ask ca hi = xh at g1 g5 HX2
  generalize ageB (datedF ls ca) (toldF ls) ask ca (-9223372036854775808) = xf at g2 g3 HX3
  generalize lifeF st ls ca x = lf at g6 HLF
  obtain ⟨e1a, e1b, e1c⟩ := e1
  obtain ⟨g1a, g1b⟩ := g1
  have g1c : xh - xl ≤ hi - lo := g1b
  obtain ⟨g3a, g3b⟩ := g3
  obtain ⟨g4a, g4b⟩ := g4
  obtain ⟨g5a, g5b⟩ := g5
  obtain ⟨g6a, g6b⟩ := g6
  clear hfk HAG g1b
  go_upto_region 4 with fail
  have A5 := (Aft.refl w1).drew
  refine wp_region_held_drew (S := fun w' => EB w' g R ∧ RbF w' vs ls) (by kernel_rfl) ⟨HB1.out.aft ((Aft.refl w1).drew), HS1.out.aft ((Aft.refl w1).drew)⟩ (fun hHeld => ?_)
  refine wpAnyH_take (i := 0) (oi := { dst := some 23, op := Go.Op.load 28 (Go.Operand.tmp 4), type := 28, pos := _, after := _, guard := _ }) (v := ?_) rfl (by kernel_rfl) (by kernel_rfl) (by kernel_rfl) (fun _ _ _ h => h) (Or.inl ⟨by rfl, ?_⟩) (by exact hHeld) ?_
  rotate_left
  · intro w hSw; refine exec_load _ (.tmp 4) ?_ g ?_ R (hSw.1.load HR.out) <;> rfl
  try simp only [Act.put]
  try simp only [List.setIfInBounds_toArray]
  try simp only [List.set]
  refine wpAnyH_take (i := 1) (oi := { dst := some 24, op := Go.Op.move (Go.Operand.tmp 9), type := 3, pos := _, after := _, guard := _ }) (v := ?_) rfl (by kernel_rfl) (by kernel_rfl) (by kernel_rfl) (fun _ _ _ h => h) (Or.inl ⟨by rfl, ?_⟩) (by exact hHeld) ?_
  rotate_left
  · intro w hSw; go_simp; try with_reducible rfl
  try simp only [Act.put]
  try simp only [List.setIfInBounds_toArray]
  try simp only [List.set]
  refine wpAnyH_take (i := 2) (oi := { dst := some 25, op := Go.Op.move (Go.Operand.tmp 10), type := 3, pos := _, after := _, guard := _ }) (v := ?_) rfl (by kernel_rfl) (by kernel_rfl) (by kernel_rfl) (fun _ _ _ h => h) (Or.inl ⟨by rfl, ?_⟩) (by exact hHeld) ?_
  rotate_left
  · intro w hSw; go_simp; try with_reducible rfl
  try simp only [Act.put]
  try simp only [List.setIfInBounds_toArray]
  try simp only [List.set]
  refine wpAnyH_take (i := 3) (oi := { dst := some 26, op := Go.Op.call { callee := Go.Callee.builtin Go.Builtin.min, args := #[Go.Operand.tmp 24, Go.Operand.tmp 25], argTypes := #[3, 3] }, type := 3, pos := _, after := _, guard := _ }) (v := ?_) rfl (by kernel_rfl) (by kernel_rfl) (by kernel_rfl) (fun _ _ _ h => h) (Or.inl ⟨by rfl, ?_⟩) (by exact hHeld) ?_
  rotate_left
  · intro w hSw; go_simp; try with_reducible rfl
  try simp only [Act.put]
  try simp only [List.setIfInBounds_toArray]
  try simp only [List.set]
  refine wpAnyH_take (i := 5) (oi := { dst := some 28, op := Go.Op.load 28 (Go.Operand.tmp 4), type := 28, pos := _, after := _, guard := _ }) (v := ?_) rfl (by kernel_rfl) (by kernel_rfl) (by kernel_rfl) (fun _ _ _ h => h) (Or.inl ⟨by rfl, ?_⟩) (by exact hHeld) ?_
  rotate_left
  · intro w hSw; refine exec_load _ (.tmp 4) ?_ g ?_ R (hSw.1.load HR.out) <;> rfl
  try simp only [Act.put]
  try simp only [List.setIfInBounds_toArray]
  try simp only [List.set]
  refine wpAnyH_take (i := 6) (oi := { dst := some 29, op := Go.Op.move (Go.Operand.tmp 9), type := 3, pos := _, after := _, guard := _ }) (v := ?_) rfl (by kernel_rfl) (by kernel_rfl) (by kernel_rfl) (fun _ _ _ h => h) (Or.inl ⟨by rfl, ?_⟩) (by exact hHeld) ?_
  rotate_left
  · intro w hSw; go_simp; try with_reducible rfl
  try simp only [Act.put]
  try simp only [List.setIfInBounds_toArray]
  try simp only [List.set]
  refine wpAnyH_take (i := 7) (oi := { dst := some 30, op := Go.Op.move (Go.Operand.tmp 10), type := 3, pos := _, after := _, guard := _ }) (v := ?_) rfl (by kernel_rfl) (by kernel_rfl) (by kernel_rfl) (fun _ _ _ h => h) (Or.inl ⟨by rfl, ?_⟩) (by exact hHeld) ?_
  rotate_left
  · intro w hSw; go_simp; try with_reducible rfl
  try simp only [Act.put]
  try simp only [List.setIfInBounds_toArray]
  try simp only [List.set]
  refine wpAnyH_take (i := 8) (oi := { dst := some 31, op := Go.Op.call { callee := Go.Callee.builtin Go.Builtin.max, args := #[Go.Operand.tmp 29, Go.Operand.tmp 30], argTypes := #[3, 3] }, type := 3, pos := _, after := _, guard := _ }) (v := ?_) rfl (by kernel_rfl) (by kernel_rfl) (by kernel_rfl) (fun _ _ _ h => h) (Or.inl ⟨by rfl, ?_⟩) (by exact hHeld) ?_
  rotate_left
  · intro w hSw; go_simp; try with_reducible rfl
  try simp only [Act.put]
  try simp only [List.setIfInBounds_toArray]
  try simp only [List.set]
  refine wpAnyH_ready (rs := [4]) (by kernel_rfl) (by simp) ?_
  refine AllReadyH.cons (o := { dst := some 27, op := Go.Op.call { callee := Go.Callee.value (Go.Operand.func 13), args := #[Go.Operand.tmp 23, Go.Operand.tmp 26], argTypes := #[28, 3] }, type := 3, pos := _, after := _, guard := _ }) rfl (fun K hK => ?_) AllReadyH.nil
  go_simp
  go_at_call 13
  refine (HX1.out _ hHeld.2).mono ?_
  rintro e w6 ⟨rfl, a6⟩
  have hS2 := And.intro (hHeld.1.aft a6) (hHeld.2.aft a6)
  have A6 := Aft.trans A5 a6
  clear A5
  have A5 := A6
  clear A6 a6
  clear hHeld
  refine hK.out _ _ hS2 (fun hHeld => ?_)
  clear hK K hS2
  try simp only [Act.put]
  try simp only [List.setIfInBounds_toArray]
  try simp only [List.set]
  refine wpAnyH_ready (rs := [9]) (by kernel_rfl) (by simp) ?_
  refine AllReadyH.cons (o := { dst := some 32, op := Go.Op.call { callee := Go.Callee.value (Go.Operand.func 13), args := #[Go.Operand.tmp 28, Go.Operand.tmp 31], argTypes := #[28, 3] }, type := 3, pos := _, after := _, guard := _ }) rfl (fun K hK => ?_) AllReadyH.nil
  go_simp
  go_at_call 13
  refine (HX2.out _ hHeld.2).mono ?_
  rintro e w6 ⟨rfl, a6⟩
  have hS2 := And.intro (hHeld.1.aft a6) (hHeld.2.aft a6)
  have A6 := Aft.trans A5 a6
  clear A5
  have A5 := A6
  clear A6 a6
  clear hHeld
  refine hK.out _ _ hS2 (fun hHeld => ?_)
  clear hK K hS2
  try simp only [Act.put]
  try simp only [List.setIfInBounds_toArray]
  try simp only [List.set]
  refine wpAnyH_take (i := 10) (oi := { dst := some 11, op := Go.Op.assign (Go.Operand.tmp 27), type := 3, pos := _, after := _, guard := _ }) (v := ?_) rfl (by kernel_rfl) (by kernel_rfl) (by kernel_rfl) (fun _ _ _ h => h) (Or.inl ⟨by rfl, ?_⟩) (by exact hHeld) ?_
  rotate_left
  · intro w hSw; go_simp; try with_reducible rfl
  try simp only [Act.put]
  try simp only [List.setIfInBounds_toArray]
  try simp only [List.set]
  refine wpAnyH_take (i := 11) (oi := { dst := some 12, op := Go.Op.assign (Go.Operand.tmp 32), type := 3, pos := _, after := _, guard := _ }) (v := ?_) rfl (by kernel_rfl) (by kernel_rfl) (by kernel_rfl) (fun _ _ _ h => h) (Or.inl ⟨by rfl, ?_⟩) (by exact hHeld) ?_
  rotate_left
  · intro w hSw; go_simp; try with_reducible rfl
  try simp only [Act.put]
  try simp only [List.setIfInBounds_toArray]
  try simp only [List.set]
  refine wpAnyH_done (by kernel_rfl) ?_ _
  have HB3 := Lib.hid hHeld.1
  have HS3 := Lib.hid hHeld.2
  have HA3 := Lib.hid (HA1.out.trans A5)
  clear hHeld A5 HB1 HS1 HA1
  go_wp2_with (refine wpList_load_row_w rfl 28 (.tmp 4) rfl g rfl _ R (0, 0) _ HB3.out Try.underlying28 rfl HINF.out ?_)
  refine (HX3.out _ HS3.out).mono ?_
  rintro e w7 ⟨rfl, a7⟩
  have HB4 := Lib.hid (HB3.out.aft a7)
  have HS4 := Lib.hid (HS3.out.aft a7)
  have HA4 := Lib.hid (HA3.out.trans a7)
  clear a7 HB3 HS3 HA3
  go_wp2_with (refine wpList_load_row_w rfl 28 (.tmp 4) rfl g rfl _ R (0, 0) _ HB4.out Try.underlying28 rfl HINF.out ?_)
  refine (HLF.out _ HS4.out).mono ?_
  rintro e w8 ⟨rfl, a8⟩
  have HA5 := Lib.hid (HA4.out.trans a8)
  clear a8
  go_wp2_with fail
  refine (freshruns_any _).mono ?_
  rintro e w9 ⟨rfl, a9⟩
  have HA6 := Lib.hid (HA5.out.trans a9)
  clear a9
  go_wp2_with fail
  go_ret
  exact ⟨rfl, HA6.out⟩

set_option maxRecDepth 100000 in
theorem walkFreshGrows (w : World) (hsh : w.ShapedOpen Try.prog) {H : Type} {enc : TypeId × Value → H} {base : Nat} {v0 : Value} {d0 : DataW H} {p0 : List MemPlace}
    (hval0 : Value.okWide Try.prog w .any base 28 v0) (k0 : DataW.Trod enc Try.prog w 0 (fun _ => true) true 28 v0 d0 p0)
    (a1 : Int) (w1 : (Lit.int .i64 a1).wf = true) (a2 : Int) (w2 : (Lit.int .i64 a2).wf = true) (x : Nat) (wx : (Lit.float .f64 x).wf = true) (hk : (DataW.weightsEach Try.prog [28, 3, 3, 29] [(d0 : DataW H), .lit (.int .i64 a1), .lit (.int .i64 a2), .lit (.float .f64 x)]).all (· ≤ reachBytes) = true) :
    Calls Try.prog 3 #[v0, .int .i64 a1, .int .i64 a2, .float .f64 x] w fun e w' => e = .returned (.bool true) ∧ Aft w w' := by
  obtain ⟨R, st, vq, vs, ask, ca, bd, lq, ls, rfl, hR, hq, hs, bq, bs, hz⟩ := open_entR hval0 k0 (wt_at hk (j := 0) rfl rfl)
  have hb1 := bounds_i64 w1
  have hb2 := bounds_i64 w2
  exact freshgrows_any R st vq vs ask ca bd lq ls a1 a2 x w hR hq hs bq bs hb1.1 hb1.2 hb2.1 hb2.2

end Go.Proofs.Ytdcdckjdloddiaa
