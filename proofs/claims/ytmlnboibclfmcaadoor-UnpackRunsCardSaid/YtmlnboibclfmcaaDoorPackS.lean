/-
  The walks of the packer's sizes and Table.
-/
import Derived.Test.YtmlnboibclfmcaaDoorPack
namespace Go.Proofs.YtmlnboibclfmcaaDoor
open Go.RowKit
set_option linter.unusedVariables false

def sizesL (told : Bool) (least most : Int) : List UInt8 := if told = true then [] else (if least < most then pintL 5 32 least.toNat else []) ++ pintL 5 32 most.toNat
theorem sizesL_len (told : Bool) (least most : Int) : (sizesL told least most).length ≤ 12 := by
  have h1 := pintL_len 5 32 least.toNat
  have h2 := pintL_len 5 32 most.toNat
  unfold sizesL
  split
  · simp
  · rw [List.length_append]
    split <;> simp <;> omega
theorem put_none (n top : Nat) (v : Int) (w : World) (hp : PreOk n top) (h0 : 0 ≤ v) (h1 : v ≤ 65536) :
    Calls Tryd.prog 64 #[.slice none 0 0, .int .i64 (n : Int), .int .u8 (top : Int), .int .i64 v] w fun e w' => ∃ v', e = .returned v' ∧ Own w' w.heap.size v' (pintL n top v.toNat) ∧ Aft w w' := by
  have := put_any (.slice none 0 0) [] n top v.toNat w (Or.inl ⟨rfl, rfl⟩) (by simp) hp (by omega)
  rw [show ((v.toNat : Nat) : Int) = v by omega] at this
  exact this
theorem put_more (v0 : Value) (l : List UInt8) (n top : Nat) (v : Int) (w : World) (hr : Rb w v0 l) (hl : l.length ≤ 1000) (hp : PreOk n top) (h0 : 0 ≤ v) (h1 : v ≤ 65536) :
    Calls Tryd.prog 64 #[v0, .int .i64 (n : Int), .int .u8 (top : Int), .int .i64 v] w fun e w' => ∃ v', e = .returned v' ∧ Own w' w.heap.size v' (l ++ pintL n top v.toNat) ∧ Aft w w' := by
  have := put_any v0 l n top v.toNat w hr (by omega) hp (by omega)
  rw [show ((v.toNat : Nat) : Int) = v by omega] at this
  exact this

set_option maxHeartbeats 4000000 in
set_option maxRecDepth 100000 in
theorem ptable_any {w : World} {B gp g : Nat} {vo vk : Value} {l : List FieldL} {most : Int} {told : Bool} {least : Int} (h : Pk w B gp g vo vk l most told least) :
    Calls Tryd.prog 38 #[.pointer (some ⟨gp, 0, none⟩)] w fun e w' => e = .returned (.tuple #[.int .i64 (l.length : Int), .int .i64 (sumF l : Int), .int .i64 most]) ∧ Aft w w' := by
  have HL := Lib.hid (fun (w' : World) (h : Pk w' B gp g vo vk l most told least) => tlen_any h.t)
  have HS := Lib.hid (fun (w' : World) (h : Pk w' B gp g vo vk l most told least) => tsize_any h.t)
  have HM := Lib.hid (fun (w' : World) (h : Pk w' B gp g vo vk l most told least) => tmost_any h.t)
  have H := Lib.hid h
  obtain ⟨n, hn⟩ : ∃ n, l.length = n := ⟨_, rfl⟩
  obtain ⟨s, hs⟩ : ∃ s, sumF l = s := ⟨_, rfl⟩
  rw [hn] at HL
  rw [hs] at HS
  rw [hn, hs]
  clear h hn hs
  go_enter Tryd.func38, Tryd.ntmps38
  go_upto_region 1 with fail
  have A5 := (Aft.refl w).drew
  refine wp_region_held_drew (S := fun w' => Pk w' B gp g vo vk l most told least) (by kernel_rfl) (H.out.aft ((Aft.refl w).drew)) (fun hHeld => ?_)
  refine wpAnyH_take (i := 0) (oi := { dst := some 5, op := Go.Op.move (Go.Operand.tmp 0), type := 51, pos := _, after := _, guard := _ }) (v := ?_) rfl (by kernel_rfl) (by kernel_rfl) (by kernel_rfl) (fun _ _ _ h => h) (Or.inl ⟨by rfl, ?_⟩) (by exact hHeld) ?_
  rotate_left
  · intro w hSw; go_simp; try with_reducible rfl
  try simp only [Act.put]
  try simp only [List.setIfInBounds_toArray]
  try simp only [List.set]
  refine wpAnyH_take (i := 1) (oi := { dst := some 6, op := Go.Op.nilCheck (Go.Operand.tmp 5), type := 0, pos := _, after := _, guard := _ }) (v := ?_) rfl (by kernel_rfl) (by kernel_rfl) (by kernel_rfl) (fun _ _ _ h => h) (Or.inl ⟨by rfl, ?_⟩) (by exact hHeld) ?_
  rotate_left
  · intro w hSw; go_simp; try with_reducible rfl
  try simp only [Act.put]
  try simp only [List.setIfInBounds_toArray]
  try simp only [List.set]
  refine wpAnyH_take (i := 2) (oi := { dst := some 7, op := Go.Op.fieldAddr 100 (Go.Operand.tmp 6) 0, type := 0, pos := _, after := _, guard := _ }) (v := ?_) rfl (by kernel_rfl) (by kernel_rfl) (by kernel_rfl) (fun _ _ _ h => h) (Or.inl ⟨by rfl, ?_⟩) (by exact hHeld) ?_
  rotate_left
  · intro w hSw; go_simp; try with_reducible rfl
  try simp only [Act.put]
  try simp only [List.setIfInBounds_toArray]
  try simp only [List.set]
  refine wpAnyH_take (i := 3) (oi := { dst := some 8, op := Go.Op.load 22 (Go.Operand.tmp 7), type := 22, pos := _, after := _, guard := _ }) (v := ?_) rfl (by kernel_rfl) (by kernel_rfl) (by kernel_rfl) (fun _ _ _ h => h) (Or.inl ⟨by rfl, ?_⟩) (by exact hHeld) ?_
  rotate_left
  · intro w hSw; obtain ⟨c0, c1, c2, f1, f2⟩ := hSw.cells; go_simp; try with_reducible rfl
  try simp only [Act.put]
  try simp only [List.setIfInBounds_toArray]
  try simp only [List.set]
  refine wpAnyH_take (i := 5) (oi := { dst := some 10, op := Go.Op.move (Go.Operand.tmp 0), type := 51, pos := _, after := _, guard := _ }) (v := ?_) rfl (by kernel_rfl) (by kernel_rfl) (by kernel_rfl) (fun _ _ _ h => h) (Or.inl ⟨by rfl, ?_⟩) (by exact hHeld) ?_
  rotate_left
  · intro w hSw; go_simp; try with_reducible rfl
  try simp only [Act.put]
  try simp only [List.setIfInBounds_toArray]
  try simp only [List.set]
  refine wpAnyH_take (i := 6) (oi := { dst := some 11, op := Go.Op.nilCheck (Go.Operand.tmp 10), type := 0, pos := _, after := _, guard := _ }) (v := ?_) rfl (by kernel_rfl) (by kernel_rfl) (by kernel_rfl) (fun _ _ _ h => h) (Or.inl ⟨by rfl, ?_⟩) (by exact hHeld) ?_
  rotate_left
  · intro w hSw; go_simp; try with_reducible rfl
  try simp only [Act.put]
  try simp only [List.setIfInBounds_toArray]
  try simp only [List.set]
  refine wpAnyH_take (i := 7) (oi := { dst := some 12, op := Go.Op.fieldAddr 100 (Go.Operand.tmp 11) 0, type := 0, pos := _, after := _, guard := _ }) (v := ?_) rfl (by kernel_rfl) (by kernel_rfl) (by kernel_rfl) (fun _ _ _ h => h) (Or.inl ⟨by rfl, ?_⟩) (by exact hHeld) ?_
  rotate_left
  · intro w hSw; go_simp; try with_reducible rfl
  try simp only [Act.put]
  try simp only [List.setIfInBounds_toArray]
  try simp only [List.set]
  refine wpAnyH_take (i := 8) (oi := { dst := some 13, op := Go.Op.load 22 (Go.Operand.tmp 12), type := 22, pos := _, after := _, guard := _ }) (v := ?_) rfl (by kernel_rfl) (by kernel_rfl) (by kernel_rfl) (fun _ _ _ h => h) (Or.inl ⟨by rfl, ?_⟩) (by exact hHeld) ?_
  rotate_left
  · intro w hSw; obtain ⟨c0, c1, c2, f1, f2⟩ := hSw.cells; go_simp; try with_reducible rfl
  try simp only [Act.put]
  try simp only [List.setIfInBounds_toArray]
  try simp only [List.set]
  refine wpAnyH_take (i := 10) (oi := { dst := some 15, op := Go.Op.move (Go.Operand.tmp 0), type := 51, pos := _, after := _, guard := _ }) (v := ?_) rfl (by kernel_rfl) (by kernel_rfl) (by kernel_rfl) (fun _ _ _ h => h) (Or.inl ⟨by rfl, ?_⟩) (by exact hHeld) ?_
  rotate_left
  · intro w hSw; go_simp; try with_reducible rfl
  try simp only [Act.put]
  try simp only [List.setIfInBounds_toArray]
  try simp only [List.set]
  refine wpAnyH_take (i := 11) (oi := { dst := some 16, op := Go.Op.nilCheck (Go.Operand.tmp 15), type := 0, pos := _, after := _, guard := _ }) (v := ?_) rfl (by kernel_rfl) (by kernel_rfl) (by kernel_rfl) (fun _ _ _ h => h) (Or.inl ⟨by rfl, ?_⟩) (by exact hHeld) ?_
  rotate_left
  · intro w hSw; go_simp; try with_reducible rfl
  try simp only [Act.put]
  try simp only [List.setIfInBounds_toArray]
  try simp only [List.set]
  refine wpAnyH_take (i := 12) (oi := { dst := some 17, op := Go.Op.fieldAddr 100 (Go.Operand.tmp 16) 0, type := 0, pos := _, after := _, guard := _ }) (v := ?_) rfl (by kernel_rfl) (by kernel_rfl) (by kernel_rfl) (fun _ _ _ h => h) (Or.inl ⟨by rfl, ?_⟩) (by exact hHeld) ?_
  rotate_left
  · intro w hSw; go_simp; try with_reducible rfl
  try simp only [Act.put]
  try simp only [List.setIfInBounds_toArray]
  try simp only [List.set]
  refine wpAnyH_take (i := 13) (oi := { dst := some 18, op := Go.Op.load 22 (Go.Operand.tmp 17), type := 22, pos := _, after := _, guard := _ }) (v := ?_) rfl (by kernel_rfl) (by kernel_rfl) (by kernel_rfl) (fun _ _ _ h => h) (Or.inl ⟨by rfl, ?_⟩) (by exact hHeld) ?_
  rotate_left
  · intro w hSw; obtain ⟨c0, c1, c2, f1, f2⟩ := hSw.cells; go_simp; try with_reducible rfl
  try simp only [Act.put]
  try simp only [List.setIfInBounds_toArray]
  try simp only [List.set]
  refine wpAnyH_ready (rs := [4]) (by kernel_rfl) (by simp) ?_
  refine AllReadyH.cons (o := { dst := some 9, op := Go.Op.call { callee := Go.Callee.value (Go.Operand.func 23), args := #[Go.Operand.tmp 8], argTypes := #[22] }, type := 3, pos := _, after := _, guard := _ }) rfl (fun K hK => ?_) AllReadyH.nil
  go_simp
  go_at_call 23
  refine (HL.out _ hHeld).mono ?_
  rintro e w6 ⟨rfl, rfl⟩
  have hS2 := hHeld
  clear hHeld
  refine hK.out _ _ hS2 (fun hHeld => ?_)
  clear hK K hS2
  try simp only [Act.put]
  try simp only [List.setIfInBounds_toArray]
  try simp only [List.set]
  refine wpAnyH_ready (rs := [9]) (by kernel_rfl) (by simp) ?_
  refine AllReadyH.cons (o := { dst := some 14, op := Go.Op.call { callee := Go.Callee.value (Go.Operand.func 22), args := #[Go.Operand.tmp 13], argTypes := #[22] }, type := 3, pos := _, after := _, guard := _ }) rfl (fun K hK => ?_) AllReadyH.nil
  go_simp
  go_at_call 22
  refine (HS.out _ hHeld).mono ?_
  rintro e w6 ⟨rfl, rfl⟩
  have hS2 := hHeld
  clear hHeld
  refine hK.out _ _ hS2 (fun hHeld => ?_)
  clear hK K hS2
  try simp only [Act.put]
  try simp only [List.setIfInBounds_toArray]
  try simp only [List.set]
  refine wpAnyH_ready (rs := [14]) (by kernel_rfl) (by simp) ?_
  refine AllReadyH.cons (o := { dst := some 19, op := Go.Op.call { callee := Go.Callee.value (Go.Operand.func 34), args := #[Go.Operand.tmp 18], argTypes := #[22] }, type := 3, pos := _, after := _, guard := _ }) rfl (fun K hK => ?_) AllReadyH.nil
  go_simp
  go_at_call 34
  refine (HM.out _ hHeld).mono ?_
  rintro e w6 ⟨rfl, rfl⟩
  have hS2 := hHeld
  clear hHeld
  refine hK.out _ _ hS2 (fun hHeld => ?_)
  clear hK K hS2
  try simp only [Act.put]
  try simp only [List.setIfInBounds_toArray]
  try simp only [List.set]
  refine wpAnyH_take (i := 15) (oi := { dst := some 2, op := Go.Op.assign (Go.Operand.tmp 9), type := 3, pos := _, after := _, guard := _ }) (v := ?_) rfl (by kernel_rfl) (by kernel_rfl) (by kernel_rfl) (fun _ _ _ h => h) (Or.inl ⟨by rfl, ?_⟩) (by exact hHeld) ?_
  rotate_left
  · intro w hSw; go_simp; try with_reducible rfl
  try simp only [Act.put]
  try simp only [List.setIfInBounds_toArray]
  try simp only [List.set]
  refine wpAnyH_take (i := 16) (oi := { dst := some 3, op := Go.Op.assign (Go.Operand.tmp 14), type := 3, pos := _, after := _, guard := _ }) (v := ?_) rfl (by kernel_rfl) (by kernel_rfl) (by kernel_rfl) (fun _ _ _ h => h) (Or.inl ⟨by rfl, ?_⟩) (by exact hHeld) ?_
  rotate_left
  · intro w hSw; go_simp; try with_reducible rfl
  try simp only [Act.put]
  try simp only [List.setIfInBounds_toArray]
  try simp only [List.set]
  refine wpAnyH_take (i := 17) (oi := { dst := some 4, op := Go.Op.assign (Go.Operand.tmp 19), type := 3, pos := _, after := _, guard := _ }) (v := ?_) rfl (by kernel_rfl) (by kernel_rfl) (by kernel_rfl) (fun _ _ _ h => h) (Or.inl ⟨by rfl, ?_⟩) (by exact hHeld) ?_
  rotate_left
  · intro w hSw; go_simp; try with_reducible rfl
  try simp only [Act.put]
  try simp only [List.setIfInBounds_toArray]
  try simp only [List.set]
  refine wpAnyH_done (by kernel_rfl) ?_ _
  go_wp2_with fail
  go_ret3
  exact ⟨rfl, A5⟩

set_option maxHeartbeats 4000000 in
set_option maxRecDepth 100000 in
theorem psizes_any {w : World} {B gp g : Nat} {vo vk : Value} {l : List FieldL} {most : Int} {told : Bool} {least : Int} (h : Pk w B gp g vo vk l most told least) (m0 : 0 ≤ most) (m1 : most ≤ 65536) (l0 : 0 ≤ least) (l1 : least ≤ 65536) (hB : B ≤ w.heap.size) :
    Calls Tryd.prog 63 #[.pointer (some ⟨gp, 0, none⟩)] w fun e w' => ∃ v', e = .returned v' ∧ Own w' w.heap.size v' (sizesL told least most) ∧ Pk w' B gp g vo vk l most true least ∧ Chg (fun k => k = gp) w w' := by
  have H := Lib.hid h
  obtain ⟨c0, c1, c2, f1, f2⟩ := h.cells
  cases told
  · have HP1 := Lib.hid (h.put1 true)
    have HC1 : Hid (Chg (fun k => k = gp) w (w.setCell ⟨gp, 1, none⟩ (.bool true))) := Lib.hid ((Chg.refl _ w).set gp 1 _ (Or.inl rfl))
    have HM := Lib.hid (fun (w' : World) (h : Pk w' B gp g vo vk l most true least) => tmost_any h.t)
    have HPL := Lib.hid (fun w => put_none 5 32 least w (by unfold PreOk; simp) l0 l1)
    have HPM := Lib.hid (fun w => put_none 5 32 most w (by unfold PreOk; simp) m0 m1)
    have hlen := pintL_len 5 32 least.toNat
    have HPX := Lib.hid (fun v0 w h => put_more v0 (pintL 5 32 least.toNat) 5 32 most w h (by omega) (by unfold PreOk; simp) m0 m1)
    clear h hlen
    go_enter Tryd.func63, Tryd.ntmps63
    go_upto_region 5 with fail
    generalize hW1 : w.setCell ⟨gp, 1, none⟩ (.bool true) = W1 at HP1 HC1 ⊢
    clear hW1 c0 c1 c2 f1 f2
    have HP2 := Lib.hid (HP1.out.aft ((Aft.refl W1).drew))
    have HC2 := Lib.hid (HC1.out.drew)
    refine wp_region_held_drew (S := fun w' => Pk w' B gp g vo vk l most true least) (by kernel_rfl) HP2.out (fun hHeld => ?_)
    refine wpAnyH_take (i := 0) (oi := { dst := some 11, op := Go.Op.move (Go.Operand.tmp 0), type := 51, pos := _, after := _, guard := _ }) (v := ?_) rfl (by kernel_rfl) (by kernel_rfl) (by kernel_rfl) (fun _ _ _ h => h) (Or.inl ⟨by rfl, ?_⟩) (by exact hHeld) ?_
    rotate_left
    · intro w hSw; go_simp; try with_reducible rfl
    try simp only [Act.put]
    try simp only [List.setIfInBounds_toArray]
    try simp only [List.set]
    refine wpAnyH_take (i := 1) (oi := { dst := some 12, op := Go.Op.nilCheck (Go.Operand.tmp 11), type := 0, pos := _, after := _, guard := _ }) (v := ?_) rfl (by kernel_rfl) (by kernel_rfl) (by kernel_rfl) (fun _ _ _ h => h) (Or.inl ⟨by rfl, ?_⟩) (by exact hHeld) ?_
    rotate_left
    · intro w hSw; go_simp; try with_reducible rfl
    try simp only [Act.put]
    try simp only [List.setIfInBounds_toArray]
    try simp only [List.set]
    refine wpAnyH_take (i := 2) (oi := { dst := some 13, op := Go.Op.fieldAddr 100 (Go.Operand.tmp 12) 2, type := 0, pos := _, after := _, guard := _ }) (v := ?_) rfl (by kernel_rfl) (by kernel_rfl) (by kernel_rfl) (fun _ _ _ h => h) (Or.inl ⟨by rfl, ?_⟩) (by exact hHeld) ?_
    rotate_left
    · intro w hSw; go_simp; try with_reducible rfl
    try simp only [Act.put]
    try simp only [List.setIfInBounds_toArray]
    try simp only [List.set]
    refine wpAnyH_take (i := 3) (oi := { dst := some 14, op := Go.Op.load 3 (Go.Operand.tmp 13), type := 3, pos := _, after := _, guard := _ }) (v := ?_) rfl (by kernel_rfl) (by kernel_rfl) (by kernel_rfl) (fun _ _ _ h => h) (Or.inl ⟨by rfl, ?_⟩) (by exact hHeld) ?_
    rotate_left
    · intro w hSw; obtain ⟨c0, c1, c2, f1, f2⟩ := hSw.cells; go_simp; try with_reducible rfl
    try simp only [Act.put]
    try simp only [List.setIfInBounds_toArray]
    try simp only [List.set]
    refine wpAnyH_take (i := 4) (oi := { dst := some 15, op := Go.Op.move (Go.Operand.tmp 0), type := 51, pos := _, after := _, guard := _ }) (v := ?_) rfl (by kernel_rfl) (by kernel_rfl) (by kernel_rfl) (fun _ _ _ h => h) (Or.inl ⟨by rfl, ?_⟩) (by exact hHeld) ?_
    rotate_left
    · intro w hSw; go_simp; try with_reducible rfl
    try simp only [Act.put]
    try simp only [List.setIfInBounds_toArray]
    try simp only [List.set]
    refine wpAnyH_take (i := 5) (oi := { dst := some 16, op := Go.Op.nilCheck (Go.Operand.tmp 15), type := 0, pos := _, after := _, guard := _ }) (v := ?_) rfl (by kernel_rfl) (by kernel_rfl) (by kernel_rfl) (fun _ _ _ h => h) (Or.inl ⟨by rfl, ?_⟩) (by exact hHeld) ?_
    rotate_left
    · intro w hSw; go_simp; try with_reducible rfl
    try simp only [Act.put]
    try simp only [List.setIfInBounds_toArray]
    try simp only [List.set]
    refine wpAnyH_take (i := 6) (oi := { dst := some 17, op := Go.Op.fieldAddr 100 (Go.Operand.tmp 16) 0, type := 0, pos := _, after := _, guard := _ }) (v := ?_) rfl (by kernel_rfl) (by kernel_rfl) (by kernel_rfl) (fun _ _ _ h => h) (Or.inl ⟨by rfl, ?_⟩) (by exact hHeld) ?_
    rotate_left
    · intro w hSw; go_simp; try with_reducible rfl
    try simp only [Act.put]
    try simp only [List.setIfInBounds_toArray]
    try simp only [List.set]
    refine wpAnyH_take (i := 7) (oi := { dst := some 18, op := Go.Op.load 22 (Go.Operand.tmp 17), type := 22, pos := _, after := _, guard := _ }) (v := ?_) rfl (by kernel_rfl) (by kernel_rfl) (by kernel_rfl) (fun _ _ _ h => h) (Or.inl ⟨by rfl, ?_⟩) (by exact hHeld) ?_
    rotate_left
    · intro w hSw; obtain ⟨c0, c1, c2, f1, f2⟩ := hSw.cells; go_simp; try with_reducible rfl
    try simp only [Act.put]
    try simp only [List.setIfInBounds_toArray]
    try simp only [List.set]
    refine wpAnyH_ready (rs := [8]) (by kernel_rfl) (by simp) ?_
    refine AllReadyH.cons (o := { dst := some 19, op := Go.Op.call { callee := Go.Callee.value (Go.Operand.func 34), args := #[Go.Operand.tmp 18], argTypes := #[22] }, type := 3, pos := _, after := _, guard := _ }) rfl (fun K hK => ?_) AllReadyH.nil
    go_simp
    go_at_call 34
    refine (HM.out _ hHeld).mono ?_
    rintro e w6 ⟨rfl, rfl⟩
    have hS2 := hHeld
    clear hHeld
    refine hK.out _ _ hS2 (fun hHeld => ?_)
    clear hK K hS2
    try simp only [Act.put]
    try simp only [List.setIfInBounds_toArray]
    try simp only [List.set]
    refine wpAnyH_take (i := 9) (oi := { dst := some 20, op := Go.Op.binOp Go.BinOp.lss 3 (Go.Operand.tmp 14) (Go.Operand.tmp 19) 3, type := 4, pos := _, after := _, guard := _ }) (v := ?_) rfl (by kernel_rfl) (by kernel_rfl) (by kernel_rfl) (fun _ _ _ h => h) (Or.inl ⟨by rfl, ?_⟩) (by exact hHeld) ?_
    rotate_left
    · intro w hSw; go_simp; try with_reducible rfl
    try simp only [Act.put]
    try simp only [List.setIfInBounds_toArray]
    try simp only [List.set]
    refine wpAnyH_done (by kernel_rfl) ?_ _
    clear hHeld HP1 HC1
    generalize W1.drew = W2 at HP2 HC2 ⊢
    obtain ⟨c0, c1, c2, f1, f2⟩ := HP2.out.cells
    by_cases hlt : least < most
    · have HS : Hid (sizesL false least most = pintL 5 32 least.toNat ++ pintL 5 32 most.toNat) := Lib.hid (by unfold sizesL; rw [if_neg (by simp), if_pos hlt])
      generalize pintL 5 32 least.toNat = P1 at HPL HPX HS
      generalize pintL 5 32 most.toNat = P2 at HPM HPX HS
      go_wp2_with fail
      refine (HPL.out _).mono ?_
      rintro e w3 ⟨v3, rfl, o3, a3⟩
      have HP3 := Lib.hid (HP2.out.aft a3)
      have HC3 := Lib.hid (HC2.out.aft a3)
      have HR3 := Lib.hid o3.rb
      clear o3 a3 c0 c1 c2 f1 f2
      obtain ⟨c0, c1, c2, f1, f2⟩ := HP3.out.cells
      go_wp2_with fail
      refine (HM.out _ HP3.out).mono ?_
      rintro e w4 ⟨rfl, rfl⟩
      go_wp2_with fail
      refine (HPX.out _ _ HR3.out).mono ?_
      rintro e w4 ⟨v4, rfl, o4, a4⟩
      have HP4 := Lib.hid (HP3.out.aft a4)
      have HC4 := Lib.hid (HC3.out.aft a4)
      have HO4 := Lib.hid (o4.base HC3.out.size)
      clear o4 a4
      go_wp2_with fail
      go_ret
      refine ⟨_, rfl, ?_, HP4.out, HC4.out⟩
      rw [HS.out]
      exact HO4.out
    · have HS : Hid (sizesL false least most = pintL 5 32 most.toNat) := Lib.hid (by unfold sizesL; rw [if_neg (by simp), if_neg hlt, List.nil_append])
      generalize pintL 5 32 most.toNat = P2 at HPM HPX HS
      go_wp2_with fail
      refine (HM.out _ HP2.out).mono ?_
      rintro e w4 ⟨rfl, rfl⟩
      go_wp2_with fail
      refine (HPM.out _).mono ?_
      rintro e w4 ⟨v4, rfl, o4, a4⟩
      have HP4 := Lib.hid (HP2.out.aft a4)
      have HC4 := Lib.hid (HC2.out.aft a4)
      have HO4 := Lib.hid (o4.base HC2.out.size)
      clear o4 a4
      go_wp2_with fail
      go_ret
      refine ⟨_, rfl, ?_, HP4.out, HC4.out⟩
      rw [HS.out]
      exact HO4.out
  · clear h
    go_enter Tryd.func63, Tryd.ntmps63
    go_wp2_with fail
    go_ret
    refine ⟨_, rfl, ?_, H.out, Chg.refl _ w⟩
    unfold sizesL
    rw [if_pos rfl]
    exact Own.nil _ _

end Go.Proofs.YtmlnboibclfmcaaDoor
