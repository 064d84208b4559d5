/-
  The walks of fresh.Age and Left.
-/
import Derived.Test.YtimpnknmhbpffaaFrLife
import Derived.Deep.RegionHeld
namespace Go.Proofs.Ytimpnknmhbpffaa
open Go.RowKit
set_option linter.unusedVariables false

theorem max0_comm (a b : Int) : max 0 (max a b) = max (max 0 a) b := by omega
set_option maxHeartbeats 8000000 in
set_option maxRecDepth 100000 in
theorem age_any (R : Array Value) (st : Int) (vs : Value) (ask ca now : Int) (l : List FieldL) (w : World) (hR : EntR R st vs ask ca) (hr : RbF w vs l) (hk : FOk l) :
    Calls Try.prog 17 #[.agg R, .int .i64 now] w fun e w' => e = .returned (.int .i64 (ageF l ask ca now)) ∧ Aft w w' := by
  have HDD := Lib.hid (fun w h => dated_any R st vs ask ca l w hR h hk)
  have HTL := Lib.hid (fun w h => told_any vs l w h hk)
  have HCA := Lib.hid (fun w => clamp_any ask w)
  have HCC := Lib.hid (fun w => clamp_any ca w)
  have HCN := Lib.hid (fun w => clamp_any now w)
  have hA : Aft w (w.alloc (.cells R 29)) := (Aft.refl w).alloc _
  have hB : EB (w.alloc (.cells R 29)) w.heap.size R := heap_alloc_new w _
  have HR := Lib.hid hR
  have HRB := Lib.hid (hr.aft hA)
  have HA := Lib.hid hA
  have HB := Lib.hid hB
  obtain ⟨aq, cq, bq, oq, hvs, -⟩ := hr.open
  unfold ageF ageB
  have okd := datedF_bd l ca
  have okt := toldF_bd l
  have oka := clampI_bd ask
  have okc := clampI_bd ca
  have okn := clampI_bd now
  generalize datedF l ca = d at HDD okd ⊢
  generalize toldF l = t at HTL okt ⊢
  generalize clampI ask = ka at HCA oka ⊢
  generalize clampI ca = kc at HCC okc ⊢
  generalize clampI now = kn at HCN okn ⊢
  obtain ⟨m, hm⟩ : ∃ m, max ka kc = m := ⟨_, rfl⟩
  have okm : 0 ≤ m ∧ m ≤ 2147483647 ∧ ka ≤ m := by omega
  obtain ⟨z, hz⟩ : ∃ z, max m kn = z := ⟨_, rfl⟩
  have okz : 0 ≤ z ∧ z ≤ 2147483647 ∧ m ≤ z := by omega
  rw [hm, hz]
  obtain ⟨y, hy⟩ : ∃ y, max (max 0 (m - d)) (t + m - ka) = y := ⟨_, rfl⟩
  have oky : 0 ≤ y ∧ y ≤ 4294967294 := by omega
  rw [hy]
  have g1 : IntKind.i64.wrap (m - d) = m - d := IntWalk.i64_in _ (by omega)
  have g2 : IntKind.i64.wrap (t + m) = t + m := IntWalk.i64_in _ (by omega)
  have g3 : IntKind.i64.wrap (t + m - ka) = t + m - ka := IntWalk.i64_in _ (by omega)
  have g4 : IntKind.i64.wrap (y + z) = y + z := IntWalk.i64_in _ (by omega)
  have g5 : IntKind.i64.wrap (y + z - m) = y + z - m := IntWalk.i64_in _ (by omega)
  have HY := Lib.hid hy
  subst hvs
  have HBD := Lib.hid (And.intro okd (And.intro okt (And.intro oka (And.intro okm okz))))
  clear hA hB hr hR hk hy okd okt oka okc okn okm okz oky
  go_enter Try.func17, Try.ntmps17
  go_upto_region 1 with fail
  generalize w.heap.size = g at HB ⊢
  generalize w.alloc (.cells R 29) = W at HA HB HRB ⊢
  obtain ⟨e6, e7, e10, e11⟩ := HB.out.cells HR.out
  go_wp2_with fail
  refine (HCA.out _).mono ?_
  rintro e w1 ⟨rfl, rfl⟩
  go_wp2_with fail
  refine (HCC.out _).mono ?_
  rintro e w1 ⟨rfl, rfl⟩
  go_wp2_with fail
  refine (HCN.out _).mono ?_
  rintro e w1 ⟨rfl, rfl⟩
  go_upto_region 4 with fail
  have A5 := (Aft.refl W).drew
  clear e6 e7 e10 e11
  refine wp_region_held_drew (S := fun w' => EB w' g R ∧ RbF w' (.slice aq l.length cq) l) (by kernel_rfl) ⟨HB.out.aft ((Aft.refl W).drew), HRB.out.aft ((Aft.refl W).drew)⟩ (fun hHeld => ?_)
  refine wpAnyH_take (i := 0) (oi := { dst := some 20, op := Go.Op.move (Go.Operand.tmp 6), type := 3, pos := _, after := _, guard := _ }) (v := ?_) rfl (by kernel_rfl) (by kernel_rfl) (by kernel_rfl) (fun _ _ _ h => h) (Or.inl ⟨by rfl, ?_⟩) (by exact hHeld) ?_
  rotate_left
  · intro w hSw; go_simp; try with_reducible rfl
  try simp only [Act.put]
  try simp only [List.setIfInBounds_toArray]
  try simp only [List.set]
  refine wpAnyH_take (i := 1) (oi := { dst := some 21, op := Go.Op.load 29 (Go.Operand.tmp 2), type := 29, pos := _, after := _, guard := _ }) (v := ?_) rfl (by kernel_rfl) (by kernel_rfl) (by kernel_rfl) (fun _ _ _ h => h) (Or.inl ⟨by rfl, ?_⟩) (by exact hHeld) ?_
  rotate_left
  · intro w hSw; refine exec_load _ (.tmp 2) ?_ g ?_ R (hSw.1.load HR.out) <;> rfl
  try simp only [Act.put]
  try simp only [List.setIfInBounds_toArray]
  try simp only [List.set]
  refine wpAnyH_take (i := 4) (oi := { dst := some 24, op := Go.Op.fieldAddr 29 (Go.Operand.tmp 2) 1, type := 0, pos := _, after := _, guard := _ }) (v := ?_) rfl (by kernel_rfl) (by kernel_rfl) (by kernel_rfl) (fun _ _ _ h => h) (Or.inl ⟨by rfl, ?_⟩) (by exact hHeld) ?_
  rotate_left
  · intro w hSw; go_simp; try with_reducible rfl
  try simp only [Act.put]
  try simp only [List.setIfInBounds_toArray]
  try simp only [List.set]
  refine wpAnyH_take (i := 5) (oi := { dst := some 25, op := Go.Op.fieldAddr 27 (Go.Operand.tmp 24) 1, type := 0, pos := _, after := _, guard := _ }) (v := ?_) rfl (by kernel_rfl) (by kernel_rfl) (by kernel_rfl) (fun _ _ _ h => h) (Or.inl ⟨by rfl, ?_⟩) (by exact hHeld) ?_
  rotate_left
  · intro w hSw; go_simp; try with_reducible rfl
  try simp only [Act.put]
  try simp only [List.setIfInBounds_toArray]
  try simp only [List.set]
  refine wpAnyH_take (i := 6) (oi := { dst := some 26, op := Go.Op.load 23 (Go.Operand.tmp 25), type := 23, pos := _, after := _, guard := _ }) (v := ?_) rfl (by kernel_rfl) (by kernel_rfl) (by kernel_rfl) (fun _ _ _ h => h) (Or.inl ⟨by rfl, ?_⟩) (by exact hHeld) ?_
  rotate_left
  · intro w hSw; obtain ⟨e6, e7, e10, e11⟩ := hSw.1.cells HR.out; go_simp; try with_reducible rfl
  try simp only [Act.put]
  try simp only [List.setIfInBounds_toArray]
  try simp only [List.set]
  refine wpAnyH_take (i := 8) (oi := { dst := some 28, op := Go.Op.move (Go.Operand.tmp 6), type := 3, pos := _, after := _, guard := _ }) (v := ?_) rfl (by kernel_rfl) (by kernel_rfl) (by kernel_rfl) (fun _ _ _ h => h) (Or.inl ⟨by rfl, ?_⟩) (by exact hHeld) ?_
  rotate_left
  · intro w hSw; go_simp; try with_reducible rfl
  try simp only [Act.put]
  try simp only [List.setIfInBounds_toArray]
  try simp only [List.set]
  refine wpAnyH_take (i := 10) (oi := { dst := some 30, op := Go.Op.move (Go.Operand.tmp 5), type := 3, pos := _, after := _, guard := _ }) (v := ?_) rfl (by kernel_rfl) (by kernel_rfl) (by kernel_rfl) (fun _ _ _ h => h) (Or.inl ⟨by rfl, ?_⟩) (by exact hHeld) ?_
  rotate_left
  · intro w hSw; go_simp; try with_reducible rfl
  try simp only [Act.put]
  try simp only [List.setIfInBounds_toArray]
  try simp only [List.set]
  refine wpAnyH_ready (rs := [2]) (by kernel_rfl) (by simp) ?_
  refine AllReadyH.cons (o := { dst := some 22, op := Go.Op.call { callee := Go.Callee.value (Go.Operand.func 38), args := #[Go.Operand.tmp 21], argTypes := #[29] }, type := 3, pos := _, after := _, guard := _ }) rfl (fun K hK => ?_) AllReadyH.nil
  go_simp
  go_at_call 38
  refine (HDD.out _ hHeld.2).mono ?_
  rintro e w6 ⟨rfl, a6⟩
  have hS2 := And.intro (hHeld.1.aft a6) (hHeld.2.aft a6)
  have A6 := Aft.trans A5 a6
  clear A5
  have A5 := A6
  clear A6 a6
  clear hHeld
  refine hK.out _ _ hS2 (fun hHeld => ?_)
  clear hK K hS2
  try simp only [Act.put]
  try simp only [List.setIfInBounds_toArray]
  try simp only [List.set]
  refine wpAnyH_take (i := 3) (oi := { dst := some 23, op := Go.Op.binOp Go.BinOp.sub 3 (Go.Operand.tmp 20) (Go.Operand.tmp 22) 3, type := 3, pos := _, after := _, guard := _ }) (v := ?_) rfl (by kernel_rfl) (by kernel_rfl) (by kernel_rfl) (fun _ _ _ h => h) (Or.inl ⟨by rfl, ?_⟩) (by exact hHeld) ?_
  rotate_left
  · intro w hSw; go_simp; try with_reducible rfl
  try simp only [Act.put]
  try simp only [List.setIfInBounds_toArray]
  try simp only [List.set]
  refine wpAnyH_ready (rs := [7]) (by kernel_rfl) (by simp) ?_
  refine AllReadyH.cons (o := { dst := some 27, op := Go.Op.call { callee := Go.Callee.value (Go.Operand.func 43), args := #[Go.Operand.tmp 26], argTypes := #[23] }, type := 3, pos := _, after := _, guard := _ }) rfl (fun K hK => ?_) AllReadyH.nil
  go_simp
  go_at_call 43
  refine (HTL.out _ hHeld.2).mono ?_
  rintro e w6 ⟨rfl, a6⟩
  have hS2 := And.intro (hHeld.1.aft a6) (hHeld.2.aft a6)
  have A6 := Aft.trans A5 a6
  clear A5
  have A5 := A6
  clear A6 a6
  clear hHeld
  refine hK.out _ _ hS2 (fun hHeld => ?_)
  clear hK K hS2
  try simp only [Act.put]
  try simp only [List.setIfInBounds_toArray]
  try simp only [List.set]
  refine wpAnyH_take (i := 9) (oi := { dst := some 29, op := Go.Op.binOp Go.BinOp.add 3 (Go.Operand.tmp 27) (Go.Operand.tmp 28) 3, type := 3, pos := _, after := _, guard := _ }) (v := ?_) rfl (by kernel_rfl) (by kernel_rfl) (by kernel_rfl) (fun _ _ _ h => h) (Or.inl ⟨by rfl, ?_⟩) (by exact hHeld) ?_
  rotate_left
  · intro w hSw; go_simp; try with_reducible rfl
  try simp only [Act.put]
  try simp only [List.setIfInBounds_toArray]
  try simp only [List.set]
  refine wpAnyH_take (i := 11) (oi := { dst := some 31, op := Go.Op.binOp Go.BinOp.sub 3 (Go.Operand.tmp 29) (Go.Operand.tmp 30) 3, type := 3, pos := _, after := _, guard := _ }) (v := ?_) rfl (by kernel_rfl) (by kernel_rfl) (by kernel_rfl) (fun _ _ _ h => h) (Or.inl ⟨by rfl, ?_⟩) (by exact hHeld) ?_
  rotate_left
  · intro w hSw; go_simp; try with_reducible rfl
  try simp only [Act.put]
  try simp only [List.setIfInBounds_toArray]
  try simp only [List.set]
  refine wpAnyH_take (i := 12) (oi := { dst := some 32, op := Go.Op.call { callee := Go.Callee.builtin Go.Builtin.max, args := #[Go.Operand.const (Go.Value.int Go.IntKind.i64 0), Go.Operand.tmp 23, Go.Operand.tmp 31], argTypes := #[3, 3, 3] }, type := 3, pos := _, after := _, guard := _ }) (v := ?_) rfl (by kernel_rfl) (by kernel_rfl) (by kernel_rfl) (fun _ _ _ h => h) (Or.inl ⟨by rfl, ?_⟩) (by exact hHeld) ?_
  rotate_left
  · intro w hSw; go_simp; try with_reducible rfl
  try simp only [Act.put]
  try simp only [List.setIfInBounds_toArray]
  try simp only [List.set]
  refine wpAnyH_take (i := 13) (oi := { dst := some 7, op := Go.Op.assign (Go.Operand.tmp 32), type := 3, pos := _, after := _, guard := _ }) (v := ?_) rfl (by kernel_rfl) (by kernel_rfl) (by kernel_rfl) (fun _ _ _ h => h) (Or.inl ⟨by rfl, ?_⟩) (by exact hHeld) ?_
  rotate_left
  · intro w hSw; go_simp; try with_reducible rfl
  try simp only [Act.put]
  try simp only [List.setIfInBounds_toArray]
  try simp only [List.set]
  refine wpAnyH_done (by kernel_rfl) ?_ _
  have HA5 := Lib.hid (HA.out.trans A5)
  clear hHeld A5 g1 g2 g3 g4 g5
  obtain ⟨⟨b1, b2⟩, ⟨b3, b4⟩, ⟨b5, b6⟩, ⟨b7, b8, b9⟩, b10, b11, b12⟩ := HBD.out
  go_wp2_with fail
  all_goals
    go_ret
    exact ⟨ret_int (by have := HY.out; omega), HA5.out⟩


theorem left_any (R : Array Value) (st : Int) (vs : Value) (ask ca now : Int) (x : Nat) (l : List FieldL) (w : World) (hR : EntR R st vs ask ca) (hr : RbF w vs l) (hk : FOk l) :
    Calls Try.prog 23 #[.agg R, .int .i64 now, .float .f64 x] w fun e w' => e = .returned (.int .i64 (lifeF st l ca x - ageF l ask ca now)) ∧ Aft w w' := by
  have HLF := Lib.hid (fun w h => lifetime_any R st vs ask ca l x w hR h hk)
  have HAG := Lib.hid (fun w h => age_any R st vs ask ca now l w hR h hk)
  have hA : Aft w (w.alloc (.cells R 29)) := (Aft.refl w).alloc _
  have hB : EB (w.alloc (.cells R 29)) w.heap.size R := heap_alloc_new w _
  have HR := Lib.hid hR
  have HRB := Lib.hid (hr.aft hA)
  have HA := Lib.hid hA
  have HB := Lib.hid hB
  obtain ⟨l0, l1⟩ := lifeF_bd st l ca x
  obtain ⟨a0, a1⟩ := ageF_bd l ask ca now
  generalize lifeF st l ca x = L at HLF l0 l1 ⊢
  generalize ageF l ask ca now = G at HAG a0 a1 ⊢
  have gw : IntKind.i64.wrap (L - G) = L - G := IntWalk.i64_in _ (by omega)
  clear hA hB hr hR hk l0 l1 a0 a1
  go_enter Try.func23, Try.ntmps23
  go_upto_region 1 with fail
  generalize w.heap.size = g at HB ⊢
  generalize w.alloc (.cells R 29) = W at HA HB HRB ⊢
  have A5 := (Aft.refl W).drew
  refine wp_region_held_drew (S := fun w' => EB w' g R ∧ RbF w' vs l) (by kernel_rfl) ⟨HB.out.aft ((Aft.refl W).drew), HRB.out.aft ((Aft.refl W).drew)⟩ (fun hHeld => ?_)
  refine wpAnyH_take (i := 0) (oi := { dst := some 7, op := Go.Op.load 29 (Go.Operand.tmp 3), type := 29, pos := _, after := _, guard := _ }) (v := ?_) rfl (by kernel_rfl) (by kernel_rfl) (by kernel_rfl) (fun _ _ _ h => h) (Or.inl ⟨by rfl, ?_⟩) (by exact hHeld) ?_
  rotate_left
  · intro w hSw; refine exec_load _ (.tmp 3) ?_ g ?_ R (hSw.1.load HR.out) <;> rfl
  try simp only [Act.put]
  try simp only [List.setIfInBounds_toArray]
  try simp only [List.set]
  refine wpAnyH_take (i := 1) (oi := { dst := some 8, op := Go.Op.move (Go.Operand.tmp 2), type := 34, pos := _, after := _, guard := _ }) (v := ?_) rfl (by kernel_rfl) (by kernel_rfl) (by kernel_rfl) (fun _ _ _ h => h) (Or.inl ⟨by rfl, ?_⟩) (by exact hHeld) ?_
  rotate_left
  · intro w hSw; go_simp; try with_reducible rfl
  try simp only [Act.put]
  try simp only [List.setIfInBounds_toArray]
  try simp only [List.set]
  refine wpAnyH_take (i := 3) (oi := { dst := some 10, op := Go.Op.load 29 (Go.Operand.tmp 3), type := 29, pos := _, after := _, guard := _ }) (v := ?_) rfl (by kernel_rfl) (by kernel_rfl) (by kernel_rfl) (fun _ _ _ h => h) (Or.inl ⟨by rfl, ?_⟩) (by exact hHeld) ?_
  rotate_left
  · intro w hSw; refine exec_load _ (.tmp 3) ?_ g ?_ R (hSw.1.load HR.out) <;> rfl
  try simp only [Act.put]
  try simp only [List.setIfInBounds_toArray]
  try simp only [List.set]
  refine wpAnyH_take (i := 4) (oi := { dst := some 11, op := Go.Op.move (Go.Operand.tmp 1), type := 3, pos := _, after := _, guard := _ }) (v := ?_) rfl (by kernel_rfl) (by kernel_rfl) (by kernel_rfl) (fun _ _ _ h => h) (Or.inl ⟨by rfl, ?_⟩) (by exact hHeld) ?_
  rotate_left
  · intro w hSw; go_simp; try with_reducible rfl
  try simp only [Act.put]
  try simp only [List.setIfInBounds_toArray]
  try simp only [List.set]
  refine wpAnyH_ready (rs := [2]) (by kernel_rfl) (by simp) ?_
  refine AllReadyH.cons (o := { dst := some 9, op := Go.Op.call { callee := Go.Callee.value (Go.Operand.func 14), args := #[Go.Operand.tmp 7, Go.Operand.tmp 8], argTypes := #[29, 34] }, type := 3, pos := _, after := _, guard := _ }) rfl (fun K hK => ?_) AllReadyH.nil
  go_simp
  go_at_call 14
  refine (HLF.out _ hHeld.2).mono ?_
  rintro e w6 ⟨rfl, a6⟩
  have hS2 := And.intro (hHeld.1.aft a6) (hHeld.2.aft a6)
  have A6 := Aft.trans A5 a6
  clear A5
  have A5 := A6
  clear A6 a6
  clear hHeld
  refine hK.out _ _ hS2 (fun hHeld => ?_)
  clear hK K hS2
  try simp only [Act.put]
  try simp only [List.setIfInBounds_toArray]
  try simp only [List.set]
  refine wpAnyH_ready (rs := [5]) (by kernel_rfl) (by simp) ?_
  refine AllReadyH.cons (o := { dst := some 12, op := Go.Op.call { callee := Go.Callee.value (Go.Operand.func 17), args := #[Go.Operand.tmp 10, Go.Operand.tmp 11], argTypes := #[29, 3] }, type := 3, pos := _, after := _, guard := _ }) rfl (fun K hK => ?_) AllReadyH.nil
  go_simp
  go_at_call 17
  refine (HAG.out _ hHeld.2).mono ?_
  rintro e w6 ⟨rfl, a6⟩
  have hS2 := And.intro (hHeld.1.aft a6) (hHeld.2.aft a6)
  have A6 := Aft.trans A5 a6
  clear A5
  have A5 := A6
  clear A6 a6
  clear hHeld
  refine hK.out _ _ hS2 (fun hHeld => ?_)
  clear hK K hS2
  try simp only [Act.put]
  try simp only [List.setIfInBounds_toArray]
  try simp only [List.set]
  refine wpAnyH_take (i := 6) (oi := { dst := some 13, op := Go.Op.binOp Go.BinOp.sub 3 (Go.Operand.tmp 9) (Go.Operand.tmp 12) 3, type := 3, pos := _, after := _, guard := _ }) (v := ?_) rfl (by kernel_rfl) (by kernel_rfl) (by kernel_rfl) (fun _ _ _ h => h) (Or.inl ⟨by rfl, ?_⟩) (by exact hHeld) ?_
  rotate_left
  · intro w hSw; go_simp; try with_reducible rfl
  try simp only [Act.put]
  try simp only [List.setIfInBounds_toArray]
  try simp only [List.set]
  refine wpAnyH_take (i := 7) (oi := { dst := some 6, op := Go.Op.assign (Go.Operand.tmp 13), type := 3, pos := _, after := _, guard := _ }) (v := ?_) rfl (by kernel_rfl) (by kernel_rfl) (by kernel_rfl) (fun _ _ _ h => h) (Or.inl ⟨by rfl, ?_⟩) (by exact hHeld) ?_
  rotate_left
  · intro w hSw; go_simp; try with_reducible rfl
  try simp only [Act.put]
  try simp only [List.setIfInBounds_toArray]
  try simp only [List.set]
  refine wpAnyH_done (by kernel_rfl) ?_ _
  have HA5 := Lib.hid (HA.out.trans A5)
  clear hHeld A5
  go_wp2_with fail
  go_ret
  exact ⟨rfl, HA5.out⟩

end Go.Proofs.Ytimpnknmhbpffaa
