/-
  ReuseFresh.
-/
import Derived.Test.YtdcdckjdloddiaaReTells
namespace Go.Proofs.Ytdcdckjdloddiaa
open Go.ChangeShapes Go.WideShapes Go.ChangeAt Go.RowKit
set_option linter.unusedVariables false

theorem nc_fld (d0 d1 d2 d3 d4 d5 : Bool) (d6 d7 d8 d9 : Int) (w : World) : (Instr.field 48 (.agg #[.bool d0, .bool d1, .bool d2, .bool d3, .bool d4, .bool d5, .int .i64 d6, .int .i64 d7, .int .i64 d8, .int .i64 d9]) 1).run Try.prog w = .ok (.bool d1) w := by kernel_rfl
theorem fok_nil : FOk [] := fok_small (by simp) (fun f hf => by cases hf)

structure TF (g g3 : Nat) (R Q : Array Value) (vs : Value) (ls : List FieldL) (w : World) : Prop where
  b : EB w g R
  q : Q6 w g3 Q
  s : RbF w vs ls
theorem TF.aft {g g3 : Nat} {R Q : Array Value} {vs : Value} {ls : List FieldL} {w w' : World} (h : TF g g3 R Q vs ls w) (a : Aft w w') : TF g g3 R Q vs ls w' :=
  ⟨h.b.aft a, h.q.aft a, h.s.aft a⟩
theorem req_box (w : World) (Q : Array Value) : Q6 (w.alloc (.cells Q 24)) w.heap.size Q := heap_alloc_new w _

set_option maxHeartbeats 16000000 in
set_option maxRecDepth 100000 in
theorem reusefresh_any (R : Array Value) (st : Int) (vq vs : Value) (ask ca : Int) (bd : ByteArray) (lq ls : List FieldL) (a b : Int) (x : Nat) (w : World) (hR : EntA R st vq vs ask ca bd) (hq : RbF w vq lq) (hs : RbF w vs ls) (bq : FieldsLim lq) (bs : FieldsLim ls)
    (a0 : -9223372036854775808 ≤ a) (a1 : a ≤ 9223372036854775807) (b0 : -9223372036854775808 ≤ b) (b1 : b ≤ 9223372036854775807) :
    Calls Try.prog 9 #[.agg R, .int .i64 a, .int .i64 b, .float .f64 x] w fun e w' => e = .returned (.bool true) ∧ Aft w w' := by
  have HSM := Lib.hid (fun w h1 h2 => small_any R st vq vs ask ca bd lq ls w hR h1 h2 bq bs)
  have HWA := Lib.hid (fun w => within_any a 0 2147483647 a0 a1 (by decide) (by decide) (by decide) w)
  have HWB := Lib.hid (fun w => within_any b 0 2147483647 b0 b1 (by decide) (by decide) (by decide) w)
  have hA : Aft w (w.alloc (.cells R 28)) := (Aft.refl w).alloc _
  have hB : EB (w.alloc (.cells R 28)) w.heap.size R := heap_alloc_new w _
  have HR := Lib.hid hR.r
  have HINF := Lib.hid hR.r.info
  have HQ := Lib.hid (hq.aft hA)
  have HS := Lib.hid (hs.aft hA)
  have HA := Lib.hid hA
  have HB := Lib.hid hB
  obtain ⟨as_, cs, bs_, os, hvs, -⟩ := hs.open
  obtain ⟨sm, hsm⟩ : ∃ sm, smallB lq ls bd.size = sm := ⟨_, rfl⟩
  rw [hsm] at HSM
  have HX := Lib.hid hsm
  subst hvs
  clear hA hB hR hq hs bq bs a0 a1 b0 b1 hsm
  go_enter Try.func9, Try.ntmps9
  go_upto_region 1 with fail
  generalize w.heap.size = g at HB ⊢
  generalize w.alloc (.cells R 28) = W at HA HB HQ HS ⊢
  go_wp2_with (refine wpList_load_row_w rfl 28 (.tmp 4) rfl g rfl _ R (0, 0) _ HB.out Try.underlying28 rfl HINF.out ?_)
  refine (HSM.out _ HQ.out HS.out).mono ?_
  rintro e w1 ⟨rfl, a1⟩
  have HB1 := Lib.hid (HB.out.aft a1)
  have HS1 := Lib.hid (HS.out.aft a1)
  have HA1 := Lib.hid (HA.out.trans a1)
  clear a1 HB HQ HS HA
  cases sm
  · go_wp2_with fail
    refine (reuseruns_any _).mono ?_
    rintro e w2 ⟨rfl, a2⟩
    have HA2 := Lib.hid (HA1.out.trans a2)
    clear a2
    go_wp2_with fail
    go_ret
    exact ⟨rfl, HA2.out⟩
  have ks := rok_small HX.out
  have HRC := Lib.hid (fun w h => rctl_any (.slice as_ ls.length cs) ls w h ks.len ks.val)
  have HOF := Lib.hid (fun now w h1 => reuse_any R #[.string ⟨#[71, 69, 84]⟩, .string ⟨#[]⟩, .string ⟨#[]⟩, .string ⟨#[]⟩, .slice none 0 0, .int .i64 0] st (.slice as_ ls.length cs) (.slice none 0 0) ask ca now x ls [] w HR.out (req_get _) h1 (Or.inl ⟨rfl, rfl⟩) ks.fok fok_nil)
  rw [ctlF_nil, unsF_nil] at HOF
  have HLE := Lib.hid (fun now w h => left_any R st (.slice as_ ls.length cs) ask ca now x ls w HR.out h ks.fok)
  generalize ctlF ls = c at HRC HOF
  obtain ⟨c0, c1, c2, c3, c4, c5, c6, c7, c8, c9⟩ := c
  have evc : ctlV ⟨c0, c1, c2, c3, c4, c5, c6, c7, c8, c9⟩ = .agg #[.bool c0, .bool c1, .bool c2, .bool c3, .bool c4, .bool c5, .int .i64 c6, .int .i64 c7, .int .i64 c8, .int .i64 c9] := rfl
  rw [evc] at HRC
  have hfl := nc_fld c0 c1 c2 c3 c4 c5 c6 c7 c8 c9
  obtain ⟨e6, e7, e10, e11⟩ := HB1.out.cells HR.out
  clear evc
  go_wp2_with fail
  refine (HRC.out _ HS1.out).mono ?_
  rintro e w2 ⟨rfl, a2⟩
  have HB2 := Lib.hid (HB1.out.aft a2)
  have HS2 := Lib.hid (HS1.out.aft a2)
  have HA2 := Lib.hid (HA1.out.trans a2)
  clear a2 e6 e7 e10 e11 HB1 HS1 HA1 HRC HSM
  cases c1
  rotate_left
  · go_wp2_with fail
    refine (reuseruns_any _).mono ?_
    rintro e w3 ⟨rfl, a3⟩
    have HA3 := Lib.hid (HA2.out.trans a3)
    clear a3
    go_wp2_with fail
    go_ret
    exact ⟨rfl, HA3.out⟩
  have hal := (Aft.refl w2).alloc (.cells #[.string ⟨#[71, 69, 84]⟩, .string ⟨#[]⟩, .string ⟨#[]⟩, .string ⟨#[]⟩, .slice none 0 0, .int .i64 0] 24)
  have HT3 := Lib.hid (TF.mk (HB2.out.aft hal) (req_box w2 #[.string ⟨#[71, 69, 84]⟩, .string ⟨#[]⟩, .string ⟨#[]⟩, .string ⟨#[]⟩, .slice none 0 0, .int .i64 0]) (HS2.out.aft hal))
  have HA3 := Lib.hid (HA2.out.trans hal)
  clear hal HB2 HS2 HA2
  go_wp2_with fail
  refine (HWA.out _).mono ?_
  rintro e w3 ⟨m, rfl, m0, m1, rfl⟩
  go_wp2_with fail
  refine (HWB.out _).mono ?_
  rintro e w3 ⟨n, rfl, n0, n1, rfl⟩
  generalize w2.alloc (.cells #[.string ⟨#[71, 69, 84]⟩, .string ⟨#[]⟩, .string ⟨#[]⟩, .string ⟨#[]⟩, .slice none 0 0, .int .i64 0] 24) = W3 at HT3 HA3 ⊢
  generalize w2.heap.size = g3 at HT3 ⊢
  obtain ⟨lo, hlo⟩ : ∃ lo, min m n = lo := ⟨_, rfl⟩
  obtain ⟨hi, hhi⟩ : ∃ hi, max m n = hi := ⟨_, rfl⟩
  have e1 : 0 ≤ lo ∧ lo ≤ hi ∧ hi ≤ 2147483647 := by omega
  have g1 := (age_grows (asked := ask) (came := ca) (datedF_bd ls ca) (toldF_bd ls) e1.1 e1.2.1 e1.2.2).1
  have HX1 := Lib.hid (HOF.out lo)
  have HX2 := Lib.hid (HOF.out hi)
  have HX3 := Lib.hid (HLE.out lo)
  have g4 := ageF_bd ls ask ca lo
  have g6 := lifeF_bd st ls ca x
  rw [reuse_fresh rfl] at HX1 HX2
  unfold ageF at HX1 HX2 HX3 g4
  generalize ageB (datedF ls ca) (toldF ls) ask ca lo = xl at g1 g4 HX1 HX3
  generalize ageB (datedF ls ca) (toldF ls) ask ca hi = xh at g1 HX2
  generalize lifeF st ls ca x = lf at g6 HX1 HX2 HX3
  obtain ⟨y1, hy1⟩ : ∃ y : Int, (if xl < lf then (1 : Int) else 2) = y := ⟨_, rfl⟩
  obtain ⟨y2, hy2⟩ : ∃ y : Int, (if xh < lf then (1 : Int) else 2) = y := ⟨_, rfl⟩
  obtain ⟨y3, hy3⟩ : ∃ y : Int, lf - xl = y := ⟨_, rfl⟩
  rw [hy1] at HX1
  rw [hy2] at HX2
  rw [hy3] at HX3
  have hyy : (y1 = 1 ∧ y2 = 1 ∧ y3 > 0) ∨ (y1 = 1 ∧ y2 = 2 ∧ y3 > 0) ∨ (y1 = 2 ∧ y2 = 2 ∧ decide (0 < y3) = false) := by
    by_cases h1 : xl < lf
    · rw [if_pos h1] at hy1
      by_cases h2 : xh < lf
      · rw [if_pos h2] at hy2; exact Or.inl ⟨hy1.symm, hy2.symm, by omega⟩
      · rw [if_neg h2] at hy2; exact Or.inr (Or.inl ⟨hy1.symm, hy2.symm, by omega⟩)
    · rw [if_neg h1] at hy1
      rw [if_neg (by omega)] at hy2
      exact Or.inr (Or.inr ⟨hy1.symm, hy2.symm, decide_eq_false (by omega)⟩)
  clear ks HOF HLE e1 g1 g4 g6 hy1 hy2 hy3 hfl
  go_upto_region 5 with fail
  go_cut [12, 13] (fun v12 v13 wx => ∃ W4 : World, W4 = wx ∧ v12 = .int .i64 y1 ∧ v13 = .int .i64 y2 ∧ Hid (TF g g3 R #[.string ⟨#[71, 69, 84]⟩, .string ⟨#[]⟩, .string ⟨#[]⟩, .string ⟨#[]⟩, .slice none 0 0, .int .i64 0] (.slice as_ ls.length cs) ls wx) ∧ Hid (Aft w wx))
  case first =>
    have A5 := (Aft.refl W3).drew
    have D5 := Lib.hid (HT3.out.aft A5)
    refine wp_region_held_drew (S := TF g g3 R #[.string ⟨#[71, 69, 84]⟩, .string ⟨#[]⟩, .string ⟨#[]⟩, .string ⟨#[]⟩, .slice none 0 0, .int .i64 0] (.slice as_ ls.length cs) ls) (by kernel_rfl) D5.out (fun hHeld => ?_)
    refine wpAnyH_take (i := 0) (oi := { dst := some 30, op := Go.Op.load 28 (Go.Operand.tmp 4), type := 28, pos := _, after := _, guard := _ }) (v := ?_) rfl (by kernel_rfl) (by kernel_rfl) (by kernel_rfl) (fun _ _ _ h => h) (Or.inl ⟨by rfl, ?_⟩) (by exact hHeld) ?_
    rotate_left
    · intro w hSw; refine exec_load _ (.tmp 4) ?_ g ?_ R (hSw.b.load HR.out) <;> rfl
    try simp only [Act.put]
    try simp only [List.setIfInBounds_toArray]
    try simp only [List.set]
    refine wpAnyH_take (i := 1) (oi := { dst := some 31, op := Go.Op.load 24 (Go.Operand.tmp 9), type := 24, pos := _, after := _, guard := _ }) (v := ?_) rfl (by kernel_rfl) (by kernel_rfl) (by kernel_rfl) (fun _ _ _ h => h) (Or.inl ⟨by rfl, ?_⟩) (by exact hHeld) ?_
    rotate_left
    · intro w hSw; refine exec_load _ (.tmp 9) ?_ g3 ?_ #[.string ⟨#[71, 69, 84]⟩, .string ⟨#[]⟩, .string ⟨#[]⟩, .string ⟨#[]⟩, .slice none 0 0, .int .i64 0] (hSw.q.load (req_get _)) <;> rfl
    try simp only [Act.put]
    try simp only [List.setIfInBounds_toArray]
    try simp only [List.set]
    refine wpAnyH_take (i := 2) (oi := { dst := some 32, op := Go.Op.move (Go.Operand.tmp 10), type := 3, pos := _, after := _, guard := _ }) (v := ?_) rfl (by kernel_rfl) (by kernel_rfl) (by kernel_rfl) (fun _ _ _ h => h) (Or.inl ⟨by rfl, ?_⟩) (by exact hHeld) ?_
    rotate_left
    · intro w hSw; go_simp; try with_reducible rfl
    try simp only [Act.put]
    try simp only [List.setIfInBounds_toArray]
    try simp only [List.set]
    refine wpAnyH_take (i := 3) (oi := { dst := some 33, op := Go.Op.move (Go.Operand.tmp 11), type := 3, pos := _, after := _, guard := _ }) (v := ?_) rfl (by kernel_rfl) (by kernel_rfl) (by kernel_rfl) (fun _ _ _ h => h) (Or.inl ⟨by rfl, ?_⟩) (by exact hHeld) ?_
    rotate_left
    · intro w hSw; go_simp; try with_reducible rfl
    try simp only [Act.put]
    try simp only [List.setIfInBounds_toArray]
    try simp only [List.set]
    refine wpAnyH_take (i := 4) (oi := { dst := some 34, op := Go.Op.call { callee := Go.Callee.builtin Go.Builtin.min, args := #[Go.Operand.tmp 32, Go.Operand.tmp 33], argTypes := #[3, 3] }, type := 3, pos := _, after := _, guard := _ }) (v := ?_) rfl (by kernel_rfl) (by kernel_rfl) (by kernel_rfl) (fun _ _ _ h => h) (Or.inl ⟨by rfl, ?_⟩) (by exact hHeld) ?_
    rotate_left
    · intro w hSw; go_simp; try with_reducible rfl
    try simp only [Act.put]
    try simp only [List.setIfInBounds_toArray]
    try simp only [List.set]
    refine wpAnyH_take (i := 5) (oi := { dst := some 35, op := Go.Op.move (Go.Operand.tmp 3), type := 29, pos := _, after := _, guard := _ }) (v := ?_) rfl (by kernel_rfl) (by kernel_rfl) (by kernel_rfl) (fun _ _ _ h => h) (Or.inl ⟨by rfl, ?_⟩) (by exact hHeld) ?_
    rotate_left
    · intro w hSw; go_simp; try with_reducible rfl
    try simp only [Act.put]
    try simp only [List.setIfInBounds_toArray]
    try simp only [List.set]
    refine wpAnyH_take (i := 7) (oi := { dst := some 37, op := Go.Op.load 28 (Go.Operand.tmp 4), type := 28, pos := _, after := _, guard := _ }) (v := ?_) rfl (by kernel_rfl) (by kernel_rfl) (by kernel_rfl) (fun _ _ _ h => h) (Or.inl ⟨by rfl, ?_⟩) (by exact hHeld) ?_
    rotate_left
    · intro w hSw; refine exec_load _ (.tmp 4) ?_ g ?_ R (hSw.b.load HR.out) <;> rfl
    try simp only [Act.put]
    try simp only [List.setIfInBounds_toArray]
    try simp only [List.set]
    refine wpAnyH_take (i := 8) (oi := { dst := some 38, op := Go.Op.load 24 (Go.Operand.tmp 9), type := 24, pos := _, after := _, guard := _ }) (v := ?_) rfl (by kernel_rfl) (by kernel_rfl) (by kernel_rfl) (fun _ _ _ h => h) (Or.inl ⟨by rfl, ?_⟩) (by exact hHeld) ?_
    rotate_left
    · intro w hSw; refine exec_load _ (.tmp 9) ?_ g3 ?_ #[.string ⟨#[71, 69, 84]⟩, .string ⟨#[]⟩, .string ⟨#[]⟩, .string ⟨#[]⟩, .slice none 0 0, .int .i64 0] (hSw.q.load (req_get _)) <;> rfl
    try simp only [Act.put]
    try simp only [List.setIfInBounds_toArray]
    try simp only [List.set]
    refine wpAnyH_take (i := 9) (oi := { dst := some 39, op := Go.Op.move (Go.Operand.tmp 10), type := 3, pos := _, after := _, guard := _ }) (v := ?_) rfl (by kernel_rfl) (by kernel_rfl) (by kernel_rfl) (fun _ _ _ h => h) (Or.inl ⟨by rfl, ?_⟩) (by exact hHeld) ?_
    rotate_left
    · intro w hSw; go_simp; try with_reducible rfl
    try simp only [Act.put]
    try simp only [List.setIfInBounds_toArray]
    try simp only [List.set]
    refine wpAnyH_take (i := 10) (oi := { dst := some 40, op := Go.Op.move (Go.Operand.tmp 11), type := 3, pos := _, after := _, guard := _ }) (v := ?_) rfl (by kernel_rfl) (by kernel_rfl) (by kernel_rfl) (fun _ _ _ h => h) (Or.inl ⟨by rfl, ?_⟩) (by exact hHeld) ?_
    rotate_left
    · intro w hSw; go_simp; try with_reducible rfl
    try simp only [Act.put]
    try simp only [List.setIfInBounds_toArray]
    try simp only [List.set]
    refine wpAnyH_take (i := 11) (oi := { dst := some 41, op := Go.Op.call { callee := Go.Callee.builtin Go.Builtin.max, args := #[Go.Operand.tmp 39, Go.Operand.tmp 40], argTypes := #[3, 3] }, type := 3, pos := _, after := _, guard := _ }) (v := ?_) rfl (by kernel_rfl) (by kernel_rfl) (by kernel_rfl) (fun _ _ _ h => h) (Or.inl ⟨by rfl, ?_⟩) (by exact hHeld) ?_
    rotate_left
    · intro w hSw; go_simp; try with_reducible rfl
    try simp only [Act.put]
    try simp only [List.setIfInBounds_toArray]
    try simp only [List.set]
    refine wpAnyH_take (i := 12) (oi := { dst := some 42, op := Go.Op.move (Go.Operand.tmp 3), type := 29, pos := _, after := _, guard := _ }) (v := ?_) rfl (by kernel_rfl) (by kernel_rfl) (by kernel_rfl) (fun _ _ _ h => h) (Or.inl ⟨by rfl, ?_⟩) (by exact hHeld) ?_
    rotate_left
    · intro w hSw; go_simp; try with_reducible rfl
    try simp only [Act.put]
    try simp only [List.setIfInBounds_toArray]
    try simp only [List.set]
    refine wpAnyH_ready (rs := [6]) (by kernel_rfl) (by simp) ?_
    refine AllReadyH.cons (o := { dst := some 36, op := Go.Op.call { callee := Go.Callee.value (Go.Operand.func 25), args := #[Go.Operand.tmp 30, Go.Operand.tmp 31, Go.Operand.tmp 34, Go.Operand.tmp 35], argTypes := #[28, 24, 3, 29] }, type := 3, pos := _, after := _, guard := _ }) rfl (fun K hK => ?_) AllReadyH.nil
    go_simp
    go_at_call 25
    refine (HX1.out _ hHeld.s).mono ?_
    rintro e w6 ⟨rfl, a6⟩
    have hS2 := TF.aft hHeld a6
    have A6 := Aft.trans A5 a6
    clear A5
    have A5 := A6
    clear A6 a6
    clear hHeld
    refine hK.out _ _ hS2 (fun hHeld => ?_)
    clear hK K hS2
    try simp only [Act.put]
    try simp only [List.setIfInBounds_toArray]
    try simp only [List.set]
    refine wpAnyH_ready (rs := [13]) (by kernel_rfl) (by simp) ?_
    refine AllReadyH.cons (o := { dst := some 43, op := Go.Op.call { callee := Go.Callee.value (Go.Operand.func 25), args := #[Go.Operand.tmp 37, Go.Operand.tmp 38, Go.Operand.tmp 41, Go.Operand.tmp 42], argTypes := #[28, 24, 3, 29] }, type := 3, pos := _, after := _, guard := _ }) rfl (fun K hK => ?_) AllReadyH.nil
    go_simp
    go_at_call 25
    refine (HX2.out _ hHeld.s).mono ?_
    rintro e w6 ⟨rfl, a6⟩
    have hS2 := TF.aft hHeld a6
    have A6 := Aft.trans A5 a6
    clear A5
    have A5 := A6
    clear A6 a6
    clear hHeld
    refine hK.out _ _ hS2 (fun hHeld => ?_)
    clear hK K hS2
    try simp only [Act.put]
    try simp only [List.setIfInBounds_toArray]
    try simp only [List.set]
    refine wpAnyH_take (i := 14) (oi := { dst := some 12, op := Go.Op.assign (Go.Operand.tmp 36), type := 3, pos := _, after := _, guard := _ }) (v := ?_) rfl (by kernel_rfl) (by kernel_rfl) (by kernel_rfl) (fun _ _ _ h => h) (Or.inl ⟨by rfl, ?_⟩) (by exact hHeld) ?_
    rotate_left
    · intro w hSw; go_simp; try with_reducible rfl
    try simp only [Act.put]
    try simp only [List.setIfInBounds_toArray]
    try simp only [List.set]
    refine wpAnyH_take (i := 15) (oi := { dst := some 13, op := Go.Op.assign (Go.Operand.tmp 43), type := 3, pos := _, after := _, guard := _ }) (v := ?_) rfl (by kernel_rfl) (by kernel_rfl) (by kernel_rfl) (fun _ _ _ h => h) (Or.inl ⟨by rfl, ?_⟩) (by exact hHeld) ?_
    rotate_left
    · intro w hSw; go_simp; try with_reducible rfl
    try simp only [Act.put]
    try simp only [List.setIfInBounds_toArray]
    try simp only [List.set]
    refine wpAnyH_done (by kernel_rfl) ?_ _
    have HA4 := Lib.hid (HA3.out.trans A5)
    have HT4 := Lib.hid hHeld
    clear hHeld A5 D5 HA3 HT3
    go_wp2_with fail
    go_meet
    exact ⟨_, rfl, rfl, rfl, HT4, HA4⟩
  case rest =>
    obtain ⟨W4, hW4, rfl, rfl, HT4, HA4⟩ := hcut
    subst hW4
    clear HT3 HA3 HX1 HX2
    rcases hyy with ⟨h1, h2, h3⟩ | ⟨h1, h2, h3⟩ | ⟨h1, h2, h3⟩
    all_goals
      subst h1 h2
      go_wp2_with (refine wpList_load_row_w rfl 28 (.tmp 4) rfl g rfl _ R (0, 0) _ HT4.out.b Try.underlying28 rfl HINF.out ?_)
      refine (HX3.out _ HT4.out.s).mono ?_
      rintro e w7 ⟨rfl, a7⟩
      have HA7 := Lib.hid (HA4.out.trans a7)
      clear a7
      go_wp2_with fail
      refine (reuseruns_any _).mono ?_
      rintro e w8 ⟨rfl, a8⟩
      have HA8 := Lib.hid (HA7.out.trans a8)
      clear a8
      go_wp2_with fail
      go_ret
      exact ⟨rfl, HA8.out⟩

set_option maxRecDepth 100000 in
theorem walkReuseFresh (w : World) (hsh : w.ShapedOpen Try.prog) {H : Type} {enc : TypeId × Value → H} {base : Nat} {v0 : Value} {d0 : DataW H} {p0 : List MemPlace}
    (hval0 : Value.okWide Try.prog w .any base 28 v0) (k0 : DataW.Trod enc Try.prog w 0 (fun _ => true) true 28 v0 d0 p0)
    (a1 : Int) (w1 : (Lit.int .i64 a1).wf = true) (a2 : Int) (w2 : (Lit.int .i64 a2).wf = true) (x : Nat) (wx : (Lit.float .f64 x).wf = true) (hk : (DataW.weightsEach Try.prog [28, 3, 3, 29] [(d0 : DataW H), .lit (.int .i64 a1), .lit (.int .i64 a2), .lit (.float .f64 x)]).all (· ≤ reachBytes) = true) :
    Calls Try.prog 9 #[v0, .int .i64 a1, .int .i64 a2, .float .f64 x] w fun e w' => e = .returned (.bool true) ∧ Aft w w' := by
  obtain ⟨R, st, vq, vs, ask, ca, bd, lq, ls, rfl, hR, hq, hs, bq, bs, hz⟩ := open_entR hval0 k0 (wt_at hk (j := 0) rfl rfl)
  have b1 := bounds_i64 w1
  have b2 := bounds_i64 w2
  exact reusefresh_any R st vq vs ask ca bd lq ls a1 a2 x w hR hq hs bq bs b1.1 b1.2 b2.1 b2.2
end Go.Proofs.Ytdcdckjdloddiaa
