/-
  ControlRuns.
-/
import Derived.Test.YtaaffpndfeidfaaCtlRuns
import Derived.Deep.RegionHeld
namespace Go.Proofs.Ytaaffpndfeidfaa
open Go.RowKit

theorem seconds_of (s : ByteArray) (v : Int) (w : World) (hs : s.size ≤ maxLen) (h : secF s.data.toList = v) :
    Calls Try.prog 9 #[.string s] w fun e w' => e = .returned (.int .i64 v) ∧ w = w' := by
  subst h
  exact seconds_any s w hs
theorem of16_of (v : Value) (xs : List (List UInt8)) (w : World) (hr : RbS w v xs) (hlen : xs.length ≤ 1000) (hj : (Lib.join xs [44, 32]).length ≤ 100000000) (u : Value) (hu : ctlV (ctlF (ccF xs)) = u) :
    Calls Try.prog 24 #[v] w fun e w' => e = .returned u ∧ Aft w w' := by
  subst hu
  exact of_any16 v xs w hr hlen hj
def rA : List (List UInt8) := [[112, 117, 98, 108, 105, 99, 44, 32, 109, 97, 120, 45, 97, 103, 101, 61, 34, 54, 48, 34], [77, 97, 120, 45, 65, 103, 101, 61, 53, 44, 32, 112, 114, 105, 118, 97, 116, 101, 61, 34, 120, 34]]
def rB : List (List UInt8) := [[109, 97, 120, 45, 115, 116, 97, 108, 101, 44, 32, 115, 45, 109, 97, 120, 97, 103, 101, 61, 120]]
def rC : List (List UInt8) := [[109, 97, 120, 45, 97, 103, 101, 61, 49, 44, 32, 34]]
theorem rA_ctl : ctlV (ctlF (ccF rA)) = .agg #[.bool false, .bool false, .bool true, .bool true, .bool false, .bool false, .int .i64 5, .int .i64 (-1), .int .i64 (-1), .int .i64 (-1)] := by kernel_rfl
theorem rB_ctl : ctlV (ctlF (ccF rB)) = .agg #[.bool false, .bool false, .bool false, .bool false, .bool false, .bool false, .int .i64 (-1), .int .i64 0, .int .i64 2147483647, .int .i64 (-1)] := by kernel_rfl
theorem rC_ctl : ctlV (ctlF (ccF rC)) = .agg #[.bool false, .bool false, .bool false, .bool false, .bool false, .bool false, .int .i64 (-1), .int .i64 (-1), .int .i64 (-1), .int .i64 (-1)] := by kernel_rfl
theorem none_ctl : ctlV ctl0 = .agg #[.bool false, .bool false, .bool false, .bool false, .bool false, .bool false, .int .i64 (-1), .int .i64 (-1), .int .i64 (-1), .int .i64 (-1)] := rfl

theorem ctl_two (w : World) (c d : Ctl) : CB ((w.alloc (.cells (ctlC c).toArray 30)).alloc (.cells (ctlC d).toArray 30)) w.heap.size c ∧ CB ((w.alloc (.cells (ctlC c).toArray 30)).alloc (.cells (ctlC d).toArray 30)) (w.heap.size + 1) d := by
  have h1 : CB (w.alloc (.cells (ctlC c).toArray 30)) w.heap.size c := heap_alloc_new w _
  refine ⟨h1.aft ((Aft.refl _).alloc _), ?_⟩
  have := heap_alloc_new (w.alloc (.cells (ctlC c).toArray 30)) (.cells (ctlC d).toArray 30)
  rw [World.size_alloc] at this
  exact this
def cA : Ctl := ⟨false, false, true, true, false, false, 5, -1, -1, -1⟩
def cB : Ctl := ⟨false, false, false, false, false, false, -1, 0, 2147483647, -1⟩
def HS (G : Nat) (w : World) : Prop := CB w G cA ∧ CB w (G + 1) cB
theorem hs_aft {G : Nat} {w w' : World} (h : HS G w) (ha : Aft w w') : HS G w' := ⟨h.1.aft ha, h.2.aft ha⟩
theorem hs_cells {G : Nat} {w : World} (h : HS G w) : (w.cell? ⟨G, 0, none⟩ = some (.bool false) ∧ w.cell? ⟨G, 1, none⟩ = some (.bool false) ∧ w.cell? ⟨G, 2, none⟩ = some (.bool true) ∧ w.cell? ⟨G, 3, none⟩ = some (.bool true) ∧ w.cell? ⟨G, 4, none⟩ = some (.bool false) ∧ w.cell? ⟨G, 5, none⟩ = some (.bool false) ∧ w.cell? ⟨G, 6, none⟩ = some (.int .i64 5) ∧ w.cell? ⟨G, 7, none⟩ = some (.int .i64 (-1)) ∧ w.cell? ⟨G, 8, none⟩ = some (.int .i64 (-1)) ∧ w.cell? ⟨G, 9, none⟩ = some (.int .i64 (-1))) ∧
    (w.cell? ⟨G + 1, 0, none⟩ = some (.bool false) ∧ w.cell? ⟨G + 1, 1, none⟩ = some (.bool false) ∧ w.cell? ⟨G + 1, 2, none⟩ = some (.bool false) ∧ w.cell? ⟨G + 1, 3, none⟩ = some (.bool false) ∧ w.cell? ⟨G + 1, 4, none⟩ = some (.bool false) ∧ w.cell? ⟨G + 1, 5, none⟩ = some (.bool false) ∧ w.cell? ⟨G + 1, 6, none⟩ = some (.int .i64 (-1)) ∧ w.cell? ⟨G + 1, 7, none⟩ = some (.int .i64 0) ∧ w.cell? ⟨G + 1, 8, none⟩ = some (.int .i64 2147483647) ∧ w.cell? ⟨G + 1, 9, none⟩ = some (.int .i64 (-1))) :=
  ⟨h.1.cells, h.2.cells⟩
theorem of_rA (W W' : World) (g : Nat) (ha : Aft (W.alloc (.cells #[.string ⟨#[112, 117, 98, 108, 105, 99, 44, 32, 109, 97, 120, 45, 97, 103, 101, 61, 34, 54, 48, 34]⟩, .string ⟨#[77, 97, 120, 45, 65, 103, 101, 61, 53, 44, 32, 112, 114, 105, 118, 97, 116, 101, 61, 34, 120, 34]⟩] 9)) W') (hg : W.heap.size = g) : Calls Try.prog 24 #[.slice (some ⟨g, 0, none⟩) 2 2] W' fun e w' => e = .returned (.agg #[.bool false, .bool false, .bool true, .bool true, .bool false, .bool false, .int .i64 5, .int .i64 (-1), .int .i64 (-1), .int .i64 (-1)]) ∧ Aft W' w' := by
  subst hg
  exact of16_of _ rA _ ((RbS.new W rA).aft ha) (by decide) (by decide) _ rA_ctl
theorem of_rB (W W' : World) (g : Nat) (ha : Aft (W.alloc (.cells #[.string ⟨#[109, 97, 120, 45, 115, 116, 97, 108, 101, 44, 32, 115, 45, 109, 97, 120, 97, 103, 101, 61, 120]⟩] 9)) W') (hg : W.heap.size = g) : Calls Try.prog 24 #[.slice (some ⟨g, 0, none⟩) 1 1] W' fun e w' => e = .returned (.agg #[.bool false, .bool false, .bool false, .bool false, .bool false, .bool false, .int .i64 (-1), .int .i64 0, .int .i64 2147483647, .int .i64 (-1)]) ∧ Aft W' w' := by
  subst hg
  exact of16_of _ rB _ ((RbS.new W rB).aft ha) (by decide) (by decide) _ rB_ctl
theorem of_rC (W W' : World) (g : Nat) (ha : Aft (W.alloc (.cells #[.string ⟨#[109, 97, 120, 45, 97, 103, 101, 61, 49, 44, 32, 34]⟩] 9)) W') (hg : W.heap.size = g) : Calls Try.prog 24 #[.slice (some ⟨g, 0, none⟩) 1 1] W' fun e w' => e = .returned (.agg #[.bool false, .bool false, .bool false, .bool false, .bool false, .bool false, .int .i64 (-1), .int .i64 (-1), .int .i64 (-1), .int .i64 (-1)]) ∧ Aft W' w' := by
  subst hg
  exact of16_of _ rC _ ((RbS.new W rC).aft ha) (by decide) (by decide) _ rC_ctl
theorem sec_10 (w : World) : Calls Try.prog 9 #[.string ⟨#[49, 48]⟩] w fun e w' => e = .returned (.int .i64 10) ∧ w = w' := seconds_of _ _ w (by decide) (by decide)
theorem sec_99 (w : World) : Calls Try.prog 9 #[.string ⟨#[57, 57, 57, 57, 57, 57, 57, 57, 57, 57, 57, 57, 57, 57, 57, 57, 57, 57, 57, 57]⟩] w fun e w' => e = .returned (.int .i64 2147483647) ∧ w = w' := seconds_of _ _ w (by decide) (by decide +kernel)
theorem sec_15 (w : World) : Calls Try.prog 9 #[.string ⟨#[49, 46, 53]⟩] w fun e w' => e = .returned (.int .i64 (-1)) ∧ w = w' := seconds_of _ _ w (by decide) (by decide +kernel)
theorem sec_no (w : World) : Calls Try.prog 9 #[.string ⟨#[]⟩] w fun e w' => e = .returned (.int .i64 (-1)) ∧ w = w' := seconds_of _ _ w (by decide) (by decide)

set_option maxHeartbeats 8000000 in
set_option maxRecDepth 100000 in
theorem ctlruns_any (w : World) : Calls Try.prog 7 #[] w fun e w' => e = .returned (.bool true) ∧ Aft w w' := by
  have HN := Lib.hid none_any
  rw [none_ctl] at HN
  go_enter Try.func7, Try.ntmps7
  go_wp2_with fail
  refine (HN.out _).mono ?_
  rintro e w1 ⟨rfl, a1⟩
  go_wp2_with fail
  refine (HN.out _).mono ?_
  rintro e w2 ⟨rfl, a2⟩
  have hH : HS w2.heap.size ((w2.alloc (.cells (ctlC cA).toArray 30)).alloc (.cells (ctlC cB).toArray 30)) := ctl_two w2 cA cB
  have hA : Aft w ((w2.alloc (.cells (ctlC cA).toArray 30)).alloc (.cells (ctlC cB).toArray 30)) := ((a1.trans a2).alloc _).alloc _
  go_upto_region 4 with fail
  obtain ⟨W, hW⟩ : ∃ W : World, (w2.alloc (.cells (ctlC cA).toArray 30)).alloc (.cells (ctlC cB).toArray 30) = W := ⟨_, rfl⟩
  rw [hW] at hH hA
  rw [show (w2.alloc (.cells #[.bool false, .bool false, .bool true, .bool true, .bool false, .bool false, .int .i64 5, .int .i64 (-1), .int .i64 (-1), .int .i64 (-1)] 30)).alloc (.cells #[.bool false, .bool false, .bool false, .bool false, .bool false, .bool false, .int .i64 (-1), .int .i64 0, .int .i64 2147483647, .int .i64 (-1)] 30) = W from hW]
  clear hW a1 a2
  generalize w2.heap.size = G at hH ⊢
  have A5 := hA.drew
  refine wp_region_held_drew (S := HS G) (by kernel_rfl) (hs_aft hH ((Aft.refl _).drew)) (fun hHeld => ?_)
  refine wpAnyH_ready (rs := [0]) (by kernel_rfl) (by simp) ?_
  refine AllReadyH.cons (o := { dst := some 10, op := Go.Op.call { callee := Go.Callee.value (Go.Operand.func 9), args := #[Go.Operand.const (Go.Value.string { data := #[49, 48] })], argTypes := #[9] }, type := 3, pos := _, after := _, guard := _ }) rfl (fun K hK => ?_) AllReadyH.nil
  go_simp
  go_at_call 9
  refine (sec_10 _).mono ?_
  rintro e w6 ⟨rfl, rfl⟩
  have hS2 := hHeld
  clear hHeld
  refine hK.out _ _ hS2 (fun hHeld => ?_)
  clear hK K hS2
  try simp only [Act.put]
  try simp only [List.setIfInBounds_toArray]
  try simp only [List.set]
  refine wpAnyH_take (i := 1) (oi := { dst := some 11, op := Go.Op.binOp Go.BinOp.eql 3 (Go.Operand.tmp 10) (Go.Operand.const (Go.Value.int Go.IntKind.i64 10)) 3, type := 4, pos := _, after := _, guard := _ }) (v := ?_) rfl (by kernel_rfl) (by kernel_rfl) (by kernel_rfl) (fun _ _ _ h => h) (Or.inl ⟨by rfl, ?_⟩) (by exact hHeld) ?_
  rotate_left
  · intro w hSw; go_simp; try with_reducible rfl
  try simp only [Act.put]
  try simp only [List.setIfInBounds_toArray]
  try simp only [List.set]
  refine wpAnyH_take (i := 2) (oi := { dst := some 12, op := Go.Op.move (Go.Operand.tmp 11), type := 4, pos := _, after := _, guard := _ }) (v := ?_) rfl (by kernel_rfl) (by kernel_rfl) (by kernel_rfl) (fun _ _ _ h => h) (Or.inl ⟨by rfl, ?_⟩) (by exact hHeld) ?_
  rotate_left
  · intro w hSw; go_simp; try with_reducible rfl
  try simp only [Act.put]
  try simp only [List.setIfInBounds_toArray]
  try simp only [List.set]
  refine wpAnyH_ready (rs := [3]) (by kernel_rfl) (by simp) ?_
  refine AllReadyH.cons (o := { dst := some 13, op := Go.Op.call { callee := Go.Callee.value (Go.Operand.func 9), args := #[Go.Operand.const (Go.Value.string { data := #[57, 57, 57, 57, 57, 57, 57, 57, 57, 57, 57, 57, 57, 57, 57, 57, 57, 57, 57, 57] })], argTypes := #[9] }, type := 3, pos := _, after := _, guard := _ }) rfl (fun K hK => ?_) AllReadyH.nil
  go_simp
  go_at_call 9
  refine (sec_99 _).mono ?_
  rintro e w6 ⟨rfl, rfl⟩
  have hS2 := hHeld
  clear hHeld
  refine hK.out _ _ hS2 (fun hHeld => ?_)
  clear hK K hS2
  try simp only [Act.put]
  try simp only [List.setIfInBounds_toArray]
  try simp only [List.set]
  refine wpAnyH_take (i := 4) (oi := { dst := some 14, op := Go.Op.binOp Go.BinOp.eql 3 (Go.Operand.tmp 13) (Go.Operand.const (Go.Value.int Go.IntKind.i64 2147483647)) 3, type := 4, pos := _, after := _, guard := _ }) (v := ?_) rfl (by kernel_rfl) (by kernel_rfl) (by kernel_rfl) (fun _ _ _ h => h) (Or.inl ⟨by rfl, ?_⟩) (by exact hHeld) ?_
  rotate_left
  · intro w hSw; go_simp; try with_reducible rfl
  try simp only [Act.put]
  try simp only [List.setIfInBounds_toArray]
  try simp only [List.set]
  refine wpAnyH_take (i := 5) (oi := { dst := some 15, op := Go.Op.pick (Go.Operand.tmp 12) (Go.Operand.tmp 14) (Go.Operand.const (Go.Value.bool false)), type := 4, pos := _, after := _, guard := _ }) (v := ?_) rfl (by kernel_rfl) (by kernel_rfl) (by kernel_rfl) (fun _ _ _ h => h) (Or.inl ⟨by rfl, ?_⟩) (by exact hHeld) ?_
  rotate_left
  · intro w hSw; go_simp; try with_reducible rfl
  try simp only [Act.put]
  try simp only [List.setIfInBounds_toArray]
  try simp only [List.set]
  refine wpAnyH_take (i := 6) (oi := { dst := some 16, op := Go.Op.move (Go.Operand.tmp 15), type := 4, pos := _, after := _, guard := _ }) (v := ?_) rfl (by kernel_rfl) (by kernel_rfl) (by kernel_rfl) (fun _ _ _ h => h) (Or.inl ⟨by rfl, ?_⟩) (by exact hHeld) ?_
  rotate_left
  · intro w hSw; go_simp; try with_reducible rfl
  try simp only [Act.put]
  try simp only [List.setIfInBounds_toArray]
  try simp only [List.set]
  refine wpAnyH_ready (rs := [7]) (by kernel_rfl) (by simp) ?_
  refine AllReadyH.cons (o := { dst := some 17, op := Go.Op.call { callee := Go.Callee.value (Go.Operand.func 9), args := #[Go.Operand.const (Go.Value.string { data := #[49, 46, 53] })], argTypes := #[9] }, type := 3, pos := _, after := _, guard := _ }) rfl (fun K hK => ?_) AllReadyH.nil
  go_simp
  go_at_call 9
  refine (sec_15 _).mono ?_
  rintro e w6 ⟨rfl, rfl⟩
  have hS2 := hHeld
  clear hHeld
  refine hK.out _ _ hS2 (fun hHeld => ?_)
  clear hK K hS2
  try simp only [Act.put]
  try simp only [List.setIfInBounds_toArray]
  try simp only [List.set]
  refine wpAnyH_take (i := 8) (oi := { dst := some 18, op := Go.Op.binOp Go.BinOp.eql 3 (Go.Operand.tmp 17) (Go.Operand.const (Go.Value.int Go.IntKind.i64 (-1))) 3, type := 4, pos := _, after := _, guard := _ }) (v := ?_) rfl (by kernel_rfl) (by kernel_rfl) (by kernel_rfl) (fun _ _ _ h => h) (Or.inl ⟨by rfl, ?_⟩) (by exact hHeld) ?_
  rotate_left
  · intro w hSw; go_simp; try with_reducible rfl
  try simp only [Act.put]
  try simp only [List.setIfInBounds_toArray]
  try simp only [List.set]
  refine wpAnyH_take (i := 9) (oi := { dst := some 19, op := Go.Op.pick (Go.Operand.tmp 16) (Go.Operand.tmp 18) (Go.Operand.const (Go.Value.bool false)), type := 4, pos := _, after := _, guard := _ }) (v := ?_) rfl (by kernel_rfl) (by kernel_rfl) (by kernel_rfl) (fun _ _ _ h => h) (Or.inl ⟨by rfl, ?_⟩) (by exact hHeld) ?_
  rotate_left
  · intro w hSw; go_simp; try with_reducible rfl
  try simp only [Act.put]
  try simp only [List.setIfInBounds_toArray]
  try simp only [List.set]
  refine wpAnyH_take (i := 10) (oi := { dst := some 20, op := Go.Op.move (Go.Operand.tmp 19), type := 4, pos := _, after := _, guard := _ }) (v := ?_) rfl (by kernel_rfl) (by kernel_rfl) (by kernel_rfl) (fun _ _ _ h => h) (Or.inl ⟨by rfl, ?_⟩) (by exact hHeld) ?_
  rotate_left
  · intro w hSw; go_simp; try with_reducible rfl
  try simp only [Act.put]
  try simp only [List.setIfInBounds_toArray]
  try simp only [List.set]
  refine wpAnyH_ready (rs := [11]) (by kernel_rfl) (by simp) ?_
  refine AllReadyH.cons (o := { dst := some 21, op := Go.Op.call { callee := Go.Callee.value (Go.Operand.func 9), args := #[Go.Operand.const (Go.Value.string { data := #[] })], argTypes := #[9] }, type := 3, pos := _, after := _, guard := _ }) rfl (fun K hK => ?_) AllReadyH.nil
  go_simp
  go_at_call 9
  refine (sec_no _).mono ?_
  rintro e w6 ⟨rfl, rfl⟩
  have hS2 := hHeld
  clear hHeld
  refine hK.out _ _ hS2 (fun hHeld => ?_)
  clear hK K hS2
  try simp only [Act.put]
  try simp only [List.setIfInBounds_toArray]
  try simp only [List.set]
  refine wpAnyH_take (i := 12) (oi := { dst := some 22, op := Go.Op.binOp Go.BinOp.eql 3 (Go.Operand.tmp 21) (Go.Operand.const (Go.Value.int Go.IntKind.i64 (-1))) 3, type := 4, pos := _, after := _, guard := _ }) (v := ?_) rfl (by kernel_rfl) (by kernel_rfl) (by kernel_rfl) (fun _ _ _ h => h) (Or.inl ⟨by rfl, ?_⟩) (by exact hHeld) ?_
  rotate_left
  · intro w hSw; go_simp; try with_reducible rfl
  try simp only [Act.put]
  try simp only [List.setIfInBounds_toArray]
  try simp only [List.set]
  refine wpAnyH_take (i := 13) (oi := { dst := some 23, op := Go.Op.pick (Go.Operand.tmp 20) (Go.Operand.tmp 22) (Go.Operand.const (Go.Value.bool false)), type := 4, pos := _, after := _, guard := _ }) (v := ?_) rfl (by kernel_rfl) (by kernel_rfl) (by kernel_rfl) (fun _ _ _ h => h) (Or.inl ⟨by rfl, ?_⟩) (by exact hHeld) ?_
  rotate_left
  · intro w hSw; go_simp; try with_reducible rfl
  try simp only [Act.put]
  try simp only [List.setIfInBounds_toArray]
  try simp only [List.set]
  refine wpAnyH_take (i := 14) (oi := { dst := some 24, op := Go.Op.move (Go.Operand.tmp 23), type := 4, pos := _, after := _, guard := _ }) (v := ?_) rfl (by kernel_rfl) (by kernel_rfl) (by kernel_rfl) (fun _ _ _ h => h) (Or.inl ⟨by rfl, ?_⟩) (by exact hHeld) ?_
  rotate_left
  · intro w hSw; go_simp; try with_reducible rfl
  try simp only [Act.put]
  try simp only [List.setIfInBounds_toArray]
  try simp only [List.set]
  refine wpAnyH_take (i := 17) (oi := { dst := some 27, op := Go.Op.load 30 (Go.Operand.tmp 1), type := 30, pos := _, after := _, guard := _ }) (v := ?_) rfl (by kernel_rfl) (by kernel_rfl) (by kernel_rfl) (fun _ _ _ h => h) (Or.inl ⟨by rfl, ?_⟩) (by exact hHeld) ?_
  rotate_left
  · intro w hSw; obtain ⟨⟨za0, za1, za2, za3, za4, za5, za6, za7, za8, za9⟩, ⟨zb0, zb1, zb2, zb3, zb4, zb5, zb6, zb7, zb8, zb9⟩⟩ := hs_cells hSw; go_simp; try with_reducible rfl
  try simp only [Act.put]
  try simp only [List.setIfInBounds_toArray]
  try simp only [List.set]
  refine wpAnyH_ready (rs := [15]) (by kernel_rfl) (by simp) ?_
  refine AllReadyH.cons (o := { dst := some 25, op := Go.Op.buildSlice 36 2 #[(0, Go.Operand.const (Go.Value.string { data := #[112, 117, 98, 108, 105, 99, 44, 32, 109, 97, 120, 45, 97, 103, 101, 61, 34, 54, 48, 34] })), (1, Go.Operand.const (Go.Value.string { data := #[77, 97, 120, 45, 65, 103, 101, 61, 53, 44, 32, 112, 114, 105, 118, 97, 116, 101, 61, 34, 120, 34] }))], type := 36, pos := _, after := _, guard := _ }) rfl (fun K hK => ?_) AllReadyH.nil
  go_simp
  have hS2 := hs_aft hHeld ((Aft.refl _).alloc (.cells (sv rA).toArray 9))
  have A6 := A5.alloc (.cells (sv rA).toArray 9)
  clear A5
  have A5 := A6
  clear A6
  clear hHeld
  refine hK.out _ _ hS2 (fun hHeld => ?_)
  clear hK K hS2
  try simp only [Act.put]
  try simp only [List.setIfInBounds_toArray]
  try simp only [List.set]
  refine wpAnyH_ready (rs := [16]) (by kernel_rfl) (by simp) ?_
  refine AllReadyH.cons (o := { dst := some 26, op := Go.Op.call { callee := Go.Callee.value (Go.Operand.func 24), args := #[Go.Operand.tmp 25], argTypes := #[36] }, type := 30, pos := _, after := _, guard := _ }) rfl (fun K hK => ?_) AllReadyH.nil
  go_simp
  go_at_call 24
  refine (of_rA ?W0rA _ _ ?harA ?hgrA).mono ?kkrA
  case harA => first | exact Aft.refl _ | exact (Aft.refl _).drew
  case hgrA => rfl
  rintro e w6 ⟨rfl, a6⟩
  have hS2 := hs_aft hHeld a6
  have A6 := Aft.trans A5 a6
  clear A5
  have A5 := A6
  clear A6 a6
  clear hHeld
  refine hK.out _ _ hS2 (fun hHeld => ?_)
  clear hK K hS2
  try simp only [Act.put]
  try simp only [List.setIfInBounds_toArray]
  try simp only [List.set]
  refine wpAnyH_take (i := 18) (oi := { dst := some 28, op := Go.Op.binOp Go.BinOp.eql 30 (Go.Operand.tmp 26) (Go.Operand.tmp 27) 30, type := 4, pos := _, after := _, guard := _ }) (v := ?_) rfl (by kernel_rfl) (by kernel_rfl) (by kernel_rfl) (fun _ _ _ h => h) (Or.inl ⟨by rfl, ?_⟩) (by exact hHeld) ?_
  rotate_left
  · intro w hSw; go_simp; try with_reducible rfl
  try simp only [Act.put]
  try simp only [List.setIfInBounds_toArray]
  try simp only [List.set]
  refine wpAnyH_take (i := 19) (oi := { dst := some 29, op := Go.Op.pick (Go.Operand.tmp 24) (Go.Operand.tmp 28) (Go.Operand.const (Go.Value.bool false)), type := 4, pos := _, after := _, guard := _ }) (v := ?_) rfl (by kernel_rfl) (by kernel_rfl) (by kernel_rfl) (fun _ _ _ h => h) (Or.inl ⟨by rfl, ?_⟩) (by exact hHeld) ?_
  rotate_left
  · intro w hSw; go_simp; try with_reducible rfl
  try simp only [Act.put]
  try simp only [List.setIfInBounds_toArray]
  try simp only [List.set]
  refine wpAnyH_take (i := 20) (oi := { dst := some 30, op := Go.Op.move (Go.Operand.tmp 29), type := 4, pos := _, after := _, guard := _ }) (v := ?_) rfl (by kernel_rfl) (by kernel_rfl) (by kernel_rfl) (fun _ _ _ h => h) (Or.inl ⟨by rfl, ?_⟩) (by exact hHeld) ?_
  rotate_left
  · intro w hSw; go_simp; try with_reducible rfl
  try simp only [Act.put]
  try simp only [List.setIfInBounds_toArray]
  try simp only [List.set]
  refine wpAnyH_take (i := 23) (oi := { dst := some 33, op := Go.Op.load 30 (Go.Operand.tmp 2), type := 30, pos := _, after := _, guard := _ }) (v := ?_) rfl (by kernel_rfl) (by kernel_rfl) (by kernel_rfl) (fun _ _ _ h => h) (Or.inl ⟨by rfl, ?_⟩) (by exact hHeld) ?_
  rotate_left
  · intro w hSw; obtain ⟨⟨za0, za1, za2, za3, za4, za5, za6, za7, za8, za9⟩, ⟨zb0, zb1, zb2, zb3, zb4, zb5, zb6, zb7, zb8, zb9⟩⟩ := hs_cells hSw; go_simp; try with_reducible rfl
  try simp only [Act.put]
  try simp only [List.setIfInBounds_toArray]
  try simp only [List.set]
  refine wpAnyH_ready (rs := [21]) (by kernel_rfl) (by simp) ?_
  refine AllReadyH.cons (o := { dst := some 31, op := Go.Op.buildSlice 36 1 #[(0, Go.Operand.const (Go.Value.string { data := #[109, 97, 120, 45, 115, 116, 97, 108, 101, 44, 32, 115, 45, 109, 97, 120, 97, 103, 101, 61, 120] }))], type := 36, pos := _, after := _, guard := _ }) rfl (fun K hK => ?_) AllReadyH.nil
  go_simp
  have hS2 := hs_aft hHeld ((Aft.refl _).alloc (.cells (sv rB).toArray 9))
  have A6 := A5.alloc (.cells (sv rB).toArray 9)
  clear A5
  have A5 := A6
  clear A6
  clear hHeld
  refine hK.out _ _ hS2 (fun hHeld => ?_)
  clear hK K hS2
  try simp only [Act.put]
  try simp only [List.setIfInBounds_toArray]
  try simp only [List.set]
  refine wpAnyH_ready (rs := [22]) (by kernel_rfl) (by simp) ?_
  refine AllReadyH.cons (o := { dst := some 32, op := Go.Op.call { callee := Go.Callee.value (Go.Operand.func 24), args := #[Go.Operand.tmp 31], argTypes := #[36] }, type := 30, pos := _, after := _, guard := _ }) rfl (fun K hK => ?_) AllReadyH.nil
  go_simp
  go_at_call 24
  refine (of_rB ?W0rB _ _ ?harB ?hgrB).mono ?kkrB
  case harB => first | exact Aft.refl _ | exact (Aft.refl _).drew
  case hgrB => rfl
  rintro e w6 ⟨rfl, a6⟩
  have hS2 := hs_aft hHeld a6
  have A6 := Aft.trans A5 a6
  clear A5
  have A5 := A6
  clear A6 a6
  clear hHeld
  refine hK.out _ _ hS2 (fun hHeld => ?_)
  clear hK K hS2
  try simp only [Act.put]
  try simp only [List.setIfInBounds_toArray]
  try simp only [List.set]
  refine wpAnyH_take (i := 24) (oi := { dst := some 34, op := Go.Op.binOp Go.BinOp.eql 30 (Go.Operand.tmp 32) (Go.Operand.tmp 33) 30, type := 4, pos := _, after := _, guard := _ }) (v := ?_) rfl (by kernel_rfl) (by kernel_rfl) (by kernel_rfl) (fun _ _ _ h => h) (Or.inl ⟨by rfl, ?_⟩) (by exact hHeld) ?_
  rotate_left
  · intro w hSw; go_simp; try with_reducible rfl
  try simp only [Act.put]
  try simp only [List.setIfInBounds_toArray]
  try simp only [List.set]
  refine wpAnyH_take (i := 25) (oi := { dst := some 35, op := Go.Op.pick (Go.Operand.tmp 30) (Go.Operand.tmp 34) (Go.Operand.const (Go.Value.bool false)), type := 4, pos := _, after := _, guard := _ }) (v := ?_) rfl (by kernel_rfl) (by kernel_rfl) (by kernel_rfl) (fun _ _ _ h => h) (Or.inl ⟨by rfl, ?_⟩) (by exact hHeld) ?_
  rotate_left
  · intro w hSw; go_simp; try with_reducible rfl
  try simp only [Act.put]
  try simp only [List.setIfInBounds_toArray]
  try simp only [List.set]
  refine wpAnyH_take (i := 26) (oi := { dst := some 36, op := Go.Op.move (Go.Operand.tmp 35), type := 4, pos := _, after := _, guard := _ }) (v := ?_) rfl (by kernel_rfl) (by kernel_rfl) (by kernel_rfl) (fun _ _ _ h => h) (Or.inl ⟨by rfl, ?_⟩) (by exact hHeld) ?_
  rotate_left
  · intro w hSw; go_simp; try with_reducible rfl
  try simp only [Act.put]
  try simp only [List.setIfInBounds_toArray]
  try simp only [List.set]
  refine wpAnyH_ready (rs := [27]) (by kernel_rfl) (by simp) ?_
  refine AllReadyH.cons (o := { dst := some 37, op := Go.Op.buildSlice 36 1 #[(0, Go.Operand.const (Go.Value.string { data := #[109, 97, 120, 45, 97, 103, 101, 61, 49, 44, 32, 34] }))], type := 36, pos := _, after := _, guard := _ }) rfl (fun K hK => ?_) AllReadyH.nil
  go_simp
  have hS2 := hs_aft hHeld ((Aft.refl _).alloc (.cells (sv rC).toArray 9))
  have A6 := A5.alloc (.cells (sv rC).toArray 9)
  clear A5
  have A5 := A6
  clear A6
  clear hHeld
  refine hK.out _ _ hS2 (fun hHeld => ?_)
  clear hK K hS2
  try simp only [Act.put]
  try simp only [List.setIfInBounds_toArray]
  try simp only [List.set]
  refine wpAnyH_ready (rs := [28]) (by kernel_rfl) (by simp) ?_
  refine AllReadyH.cons (o := { dst := some 38, op := Go.Op.call { callee := Go.Callee.value (Go.Operand.func 24), args := #[Go.Operand.tmp 37], argTypes := #[36] }, type := 30, pos := _, after := _, guard := _ }) rfl (fun K hK => ?_) AllReadyH.nil
  go_simp
  go_at_call 24
  refine (of_rC ?W0rC _ _ ?harC ?hgrC).mono ?kkrC
  case harC => first | exact Aft.refl _ | exact (Aft.refl _).drew
  case hgrC => rfl
  rintro e w6 ⟨rfl, a6⟩
  have hS2 := hs_aft hHeld a6
  have A6 := Aft.trans A5 a6
  clear A5
  have A5 := A6
  clear A6 a6
  clear hHeld
  refine hK.out _ _ hS2 (fun hHeld => ?_)
  clear hK K hS2
  try simp only [Act.put]
  try simp only [List.setIfInBounds_toArray]
  try simp only [List.set]
  refine wpAnyH_ready (rs := [29]) (by kernel_rfl) (by simp) ?_
  refine AllReadyH.cons (o := { dst := some 39, op := Go.Op.call { callee := Go.Callee.value (Go.Operand.func 23), args := #[], argTypes := #[] }, type := 30, pos := _, after := _, guard := _ }) rfl (fun K hK => ?_) AllReadyH.nil
  go_simp
  go_at_call 23
  refine (HN.out _).mono ?_
  rintro e w6 ⟨rfl, a6⟩
  have hS2 := hs_aft hHeld a6
  have A6 := Aft.trans A5 a6
  clear A5
  have A5 := A6
  clear A6 a6
  clear hHeld
  refine hK.out _ _ hS2 (fun hHeld => ?_)
  clear hK K hS2
  try simp only [Act.put]
  try simp only [List.setIfInBounds_toArray]
  try simp only [List.set]
  refine wpAnyH_take (i := 30) (oi := { dst := some 40, op := Go.Op.binOp Go.BinOp.eql 30 (Go.Operand.tmp 38) (Go.Operand.tmp 39) 30, type := 4, pos := _, after := _, guard := _ }) (v := ?_) rfl (by kernel_rfl) (by kernel_rfl) (by kernel_rfl) (fun _ _ _ h => h) (Or.inl ⟨by rfl, ?_⟩) (by exact hHeld) ?_
  rotate_left
  · intro w hSw; go_simp; try with_reducible rfl
  try simp only [Act.put]
  try simp only [List.setIfInBounds_toArray]
  try simp only [List.set]
  refine wpAnyH_take (i := 31) (oi := { dst := some 41, op := Go.Op.pick (Go.Operand.tmp 36) (Go.Operand.tmp 40) (Go.Operand.const (Go.Value.bool false)), type := 4, pos := _, after := _, guard := _ }) (v := ?_) rfl (by kernel_rfl) (by kernel_rfl) (by kernel_rfl) (fun _ _ _ h => h) (Or.inl ⟨by rfl, ?_⟩) (by exact hHeld) ?_
  rotate_left
  · intro w hSw; go_simp; try with_reducible rfl
  try simp only [Act.put]
  try simp only [List.setIfInBounds_toArray]
  try simp only [List.set]
  refine wpAnyH_take (i := 32) (oi := { dst := some 0, op := Go.Op.assign (Go.Operand.tmp 41), type := 4, pos := _, after := _, guard := _ }) (v := ?_) rfl (by kernel_rfl) (by kernel_rfl) (by kernel_rfl) (fun _ _ _ h => h) (Or.inl ⟨by rfl, ?_⟩) (by exact hHeld) ?_
  rotate_left
  · intro w hSw; go_simp; try with_reducible rfl
  try simp only [Act.put]
  try simp only [List.setIfInBounds_toArray]
  try simp only [List.set]
  refine wpAnyH_done (by kernel_rfl) ?_ _
  go_wp2
  go_ret
  exact ⟨rfl, A5⟩

end Go.Proofs.Ytaaffpndfeidfaa
