/-
  FreshTells.
-/
import Derived.Test.YtdcdckjdloddiaaFrGrows
import Derived.Test.YtdcdckjdloddiaaFrRAge
import Derived.Test.YtdcdckjdloddiaaArgR
import Derived.Laws.CopyOwn
namespace Go.Proofs.Ytdcdckjdloddiaa
open Go.ChangeShapes Go.WideShapes Go.ChangeAt Go.RowKit
set_option linter.unusedVariables false

theorem full_rb19 {w : World} {g : Nat} {l : List FieldL} (h : FB w g (l ++ List.replicate 80 markF)) (hlen : l.length ≤ 1000000) : RbF w (.slice (some ⟨g, 0, none⟩) (l.length + 80) (l.length + 80)) (l ++ List.replicate 80 markF) ∧ RbF w (.slice (some ⟨g, 0, none⟩) l.length (l.length + 80)) l := by
  have hll : (l ++ List.replicate 80 markF).length = l.length + 80 := by simp
  have hm : (l ++ List.replicate 80 markF).length ≤ maxLen := by rw [hll]; unfold maxLen; omega
  have h1 := h.rb hm (l.length + 80) (by omega)
  have h2 := h.rb hm l.length (by omega)
  rw [hll] at h1 h2
  rw [List.take_of_length_le (by omega)] at h1
  rw [List.take_left'] at h2
  · exact ⟨h1, h2⟩
  · rfl
theorem rok_of_small {lq ls : List FieldL} {n : Nat} (h : smallB lq ls n = true) : ROk ls := by
  unfold smallB at h
  simp only [Bool.and_eq_true, decide_eq_true_eq] at h
  exact ⟨by have := sumL_len ls; omega, fun f hf => by have := sumL_mem hf; omega⟩
def entZ : Array Value := #[.string ⟨#[]⟩, .string ⟨#[]⟩, .string ⟨#[]⟩, .string ⟨#[]⟩, .slice none 0 0, .int .i64 0, .int .i64 0, .slice none 0 0, .int .i64 0, .string ⟨#[]⟩, .int .i64 0, .int .i64 0]
theorem ent_pre (w : World) {R : Array Value} (hs : R.size = 12) (h1 : R.all (·.oneCell') = true) : (w.alloc (.cells entZ 28)).heap[w.heap.size]? = some (.cells entZ 28 (0, 0)) ∧ (Try.prog.info? 28).map (·.size) = some R.size ∧ entZ.size = R.size ∧ R.all (·.oneCell') = true :=
  ⟨heap_alloc_new w _, by rw [hs]; kernel_rfl, by rw [hs]; rfl, h1⟩
theorem ent_put (w : World) (R : Array Value) (v : Value) : EB (((w.alloc (.cells entZ 28)).setRow w.heap.size R).setCell ⟨w.heap.size, 7, none⟩ v) w.heap.size (R.setIfInBounds 7 v) ∧ Aft w (((w.alloc (.cells entZ 28)).setRow w.heap.size R).setCell ⟨w.heap.size, 7, none⟩ v) ∧ EB ((w.alloc (.cells entZ 28)).setRow w.heap.size R) w.heap.size R ∧ Aft w ((w.alloc (.cells entZ 28)).setRow w.heap.size R) := by
  have h : EB (w.alloc (.cells entZ 28)) w.heap.size entZ := heap_alloc_new w _
  have h2 : EB ((w.alloc (.cells entZ 28)).setRow w.heap.size R) w.heap.size R := setRow_heap _ _ _ _ _ _ h
  have a2 : Aft w ((w.alloc (.cells entZ 28)).setRow w.heap.size R) := below_setRow ((Aft.refl w).alloc _) (Nat.le_refl _) _
  refine ⟨?_, Below.setCell a2 (Nat.le_refl _) _, h2, a2⟩
  unfold EB
  rw [heap_setCell_same _ _ 7 _ _ v h2]
theorem EntR.set7 {R : Array Value} {st : Int} {vs : Value} {ask ca : Int} (h : EntR R st vs ask ca) (v : Value) : EntR (R.setIfInBounds 7 v) st v ask ca := by
  obtain ⟨h1, h2, h3, h4, h5⟩ := h
  refine ⟨by rw [Array.size_setIfInBounds]; exact h1, ?_, ?_, ?_, ?_⟩
  · rw [Array.getElem?_setIfInBounds_ne (by decide)]; exact h2
  · rw [Array.getElem?_setIfInBounds_self_of_lt (by omega)]
  · rw [Array.getElem?_setIfInBounds_ne (by decide)]; exact h4
  · rw [Array.getElem?_setIfInBounds_ne (by decide)]; exact h5

structure TH (g g2 gf : Nat) (R R2 : Array Value) (vs : Value) (ls : List FieldL) (w : World) : Prop where
  b : EB w g R
  p : EB w g2 R2
  s : RbF w vs ls
  f : RbF w (.slice (some ⟨gf, 0, none⟩) ls.length (ls.length + 80)) ls
  full : RbF w (.slice (some ⟨gf, 0, none⟩) (ls.length + 80) (ls.length + 80)) (ls ++ List.replicate 80 markF)
theorem TH.aft {g g2 gf : Nat} {R R2 : Array Value} {vs : Value} {ls : List FieldL} {w w' : World} (h : TH g g2 gf R R2 vs ls w) (a : Aft w w') : TH g g2 gf R R2 vs ls w' :=
  ⟨h.b.aft a, h.p.aft a, h.s.aft a, h.f.aft a, h.full.aft a⟩

set_option maxHeartbeats 8000000 in
set_option maxRecDepth 100000 in
theorem freshtells_any (R : Array Value) (st : Int) (vq vs : Value) (ask ca : Int) (bd : ByteArray) (lq ls : List FieldL) (now : Int) (x : Nat) (w : World) (hR : EntA R st vq vs ask ca bd) (hq : RbF w vq lq) (hs : RbF w vs ls) (bq : FieldsLim lq) (bs : FieldsLim ls) :
    Calls Try.prog 4 #[.agg R, .int .i64 now, .float .f64 x] w fun e w' => e = .returned (.bool true) ∧ Aft w w' := by
  have HSM := Lib.hid (fun w h1 h2 => small_any R st vq vs ask ca bd lq ls w hR h1 h2 bq bs)
  have hA : Aft w (w.alloc (.cells R 28)) := (Aft.refl w).alloc _
  have hB : EB (w.alloc (.cells R 28)) w.heap.size R := heap_alloc_new w _
  have HR := Lib.hid hR.r
  have HINF := Lib.hid hR.r.info
  have HEP := Lib.hid (fun w => ent_pre w hR.r.size hR.one)
  have HQ := Lib.hid (hq.aft hA)
  have HS := Lib.hid (hs.aft hA)
  have HA := Lib.hid hA
  have HB := Lib.hid hB
  obtain ⟨sm, hsm⟩ : ∃ sm, smallB lq ls bd.size = sm := ⟨_, rfl⟩
  rw [hsm] at HSM
  have HX := Lib.hid hsm
  obtain ⟨as_, cs, bbs, os, rfl, -⟩ := hs.open
  clear hA hB hR hq hs bq bs hsm
  go_enter Try.func4, Try.ntmps4
  go_upto_region 1 with fail
  generalize w.heap.size = g at HB ⊢
  generalize w.alloc (.cells R 28) = W at HA HB HQ HS ⊢
  go_wp2_with (refine wpList_load_row_w rfl 28 (.tmp 3) rfl g rfl _ R (0, 0) _ HB.out Try.underlying28 rfl HINF.out ?_)
  refine (HSM.out _ HQ.out HS.out).mono ?_
  rintro e w1 ⟨rfl, a1⟩
  have HB1 := Lib.hid (HB.out.aft a1)
  have HS1 := Lib.hid (HS.out.aft a1)
  have HA1 := Lib.hid (HA.out.trans a1)
  clear a1 HB HQ HS HA
  cases sm
  · go_wp2_with fail
    refine (freshruns_any _).mono ?_
    rintro e w2 ⟨rfl, a2⟩
    have HA2 := Lib.hid (HA1.out.trans a2)
    clear a2
    go_wp2_with fail
    go_ret
    exact ⟨rfl, HA2.out⟩
  have hrk := rok_of_small HX.out
  have hlen : ls.length ≤ 1000000 := by have := hrk.len; omega
  have HRO := Lib.hid (fun w h => roomyF_any (.slice as_ ls.length cs) ls w h hlen)
  have HIN := Lib.hid (fun v1 w h1 h2 => intactF_any v1 (.slice as_ ls.length cs) ls w h1 h2 hlen)
  have HFR := Lib.hid (fun (w : World) g h => full_rb19 (w := w) (g := g) (l := ls) h hlen)
  have HRL := Lib.hid (fun w h => rlifetime_any R st (.slice as_ ls.length cs) ask ca ls x w HR.out h hrk)
  have HRA := Lib.hid (fun w h => rage_any R st (.slice as_ ls.length cs) ask ca now ls w HR.out h hrk)
  have HLF := Lib.hid (fun R v w (hR : EntR R st v ask ca) h => lifetime_any R st v ask ca ls x w hR h hrk.fok)
  have HAG := Lib.hid (fun R v w (hR : EntR R st v ask ca) h => age_any R st v ask ca now ls w hR h hrk.fok)
  have HLE := Lib.hid (fun R v w (hR : EntR R st v ask ca) h => left_any R st v ask ca now x ls w hR h hrk.fok)
  have g5 := ageF_bd ls ask ca now
  have g6 := lifeF_bd st ls ca x
  generalize lifeF st ls ca x = lf at g6 HLF HLE HRL
  generalize ageF ls ask ca now = ag at g5 HAG HLE HRA
  have gw : IntKind.i64.wrap (lf - ag) = lf - ag := IntWalk.i64_in _ (by omega)
  clear hrk g5 g6
  obtain ⟨e6, e7, e10, e11⟩ := HB1.out.cells HR.out
  go_upto_region 3 with fail
  have A5 := (Aft.refl w1).drew
  clear e6 e7 e10 e11
  refine wp_region_held_drew (S := fun w' => EB w' g R ∧ RbF w' (.slice as_ ls.length cs) ls) (by kernel_rfl) ⟨HB1.out.aft ((Aft.refl w1).drew), HS1.out.aft ((Aft.refl w1).drew)⟩ (fun hHeld => ?_)
  refine wpAnyH_take (i := 0) (oi := { dst := some 15, op := Go.Op.fieldAddr 28 (Go.Operand.tmp 3) 1, type := 0, pos := _, after := _, guard := _ }) (v := ?_) rfl (by kernel_rfl) (by kernel_rfl) (by kernel_rfl) (fun _ _ _ h => h) (Or.inl ⟨by rfl, ?_⟩) (by exact hHeld) ?_
  rotate_left
  · intro w hSw; go_simp; try with_reducible rfl
  try simp only [Act.put]
  try simp only [List.setIfInBounds_toArray]
  try simp only [List.set]
  refine wpAnyH_take (i := 1) (oi := { dst := some 16, op := Go.Op.fieldAddr 26 (Go.Operand.tmp 15) 1, type := 0, pos := _, after := _, guard := _ }) (v := ?_) rfl (by kernel_rfl) (by kernel_rfl) (by kernel_rfl) (fun _ _ _ h => h) (Or.inl ⟨by rfl, ?_⟩) (by exact hHeld) ?_
  rotate_left
  · intro w hSw; go_simp; try with_reducible rfl
  try simp only [Act.put]
  try simp only [List.setIfInBounds_toArray]
  try simp only [List.set]
  refine wpAnyH_take (i := 2) (oi := { dst := some 17, op := Go.Op.load 22 (Go.Operand.tmp 16), type := 22, pos := _, after := _, guard := _ }) (v := ?_) rfl (by kernel_rfl) (by kernel_rfl) (by kernel_rfl) (fun _ _ _ h => h) (Or.inl ⟨by rfl, ?_⟩) (by exact hHeld) ?_
  rotate_left
  · intro w hSw; obtain ⟨e6, e7, e10, e11⟩ := hSw.1.cells HR.out; go_simp; try with_reducible rfl
  try simp only [Act.put]
  try simp only [List.setIfInBounds_toArray]
  try simp only [List.set]
  refine wpAnyH_ready (rs := [3]) (by kernel_rfl) (by simp) ?_
  refine AllReadyH.cons (o := { dst := some 18, op := Go.Op.call { callee := Go.Callee.value (Go.Operand.func 16), args := #[Go.Operand.const (Go.Value.string { data := #[109] }), Go.Operand.const (Go.Value.string { data := #[] })], argTypes := #[9, 9] }, type := 38, pos := _, after := _, guard := _ }) rfl (fun K hK => ?_) AllReadyH.nil
  go_simp
  go_at_call 16
  refine (of19_any _ _ _).mono ?_
  rintro e w6 ⟨rfl, a6⟩
  have hS2 := And.intro (hHeld.1.aft a6) (hHeld.2.aft a6)
  have A6 := Aft.trans A5 a6
  clear A5
  have A5 := A6
  clear A6 a6
  clear hHeld
  refine hK.out _ _ hS2 (fun hHeld => ?_)
  clear hK K hS2
  try simp only [Act.put]
  try simp only [List.setIfInBounds_toArray]
  try simp only [List.set]
  refine wpAnyH_ready (rs := [4]) (by kernel_rfl) (by simp) ?_
  refine AllReadyH.cons (o := { dst := some 19, op := Go.Op.call { callee := Go.Callee.value (Go.Operand.func 15), args := #[Go.Operand.tmp 17, Go.Operand.tmp 18], argTypes := #[22, 38] }, type := 22, pos := _, after := _, guard := _ }) rfl (fun K hK => ?_) AllReadyH.nil
  go_simp
  go_at_call 15
  refine (HRO.out _ hHeld.2).mono ?_
  rintro e w6 ⟨gf, rfl, hfb, a6⟩
  have hS2 := And.intro (hHeld.1.aft a6) (hHeld.2.aft a6)
  have A6 := Aft.trans A5 a6
  clear A5
  have A5 := A6
  clear A6 a6
  clear hHeld
  refine hK.out _ _ hS2 (fun hHeld => ?_)
  clear hK K hS2
  try simp only [Act.put]
  try simp only [List.setIfInBounds_toArray]
  try simp only [List.set]
  refine wpAnyH_take (i := 5) (oi := { dst := some 7, op := Go.Op.assign (Go.Operand.tmp 19), type := 22, pos := _, after := _, guard := _ }) (v := ?_) rfl (by kernel_rfl) (by kernel_rfl) (by kernel_rfl) (fun _ _ _ h => h) (Or.inl ⟨by rfl, ?_⟩) (by exact hHeld) ?_
  rotate_left
  · intro w hSw; go_simp; try with_reducible rfl
  try simp only [Act.put]
  try simp only [List.setIfInBounds_toArray]
  try simp only [List.set]
  refine wpAnyH_done (by kernel_rfl) ?_ _
  have HB2 := Lib.hid hHeld.1
  have HS2 := Lib.hid hHeld.2
  have HA2 := Lib.hid (HA1.out.trans A5)
  obtain ⟨r1, r2⟩ := HFR.out _ _ hfb.out
  have HF1 := Lib.hid r1
  have HF2 := Lib.hid r2
  clear hHeld A5 HB1 HS1 HA1 r1 r2 hfb HFR HRO
  have HEP2 := Lib.hid (HEP.out w6)
  have HPU := Lib.hid (ent_put w6 R (.slice (some ⟨gf, 0, none⟩) ls.length (ls.length + 80)))
  go_upto_region 5 with (first | (refine wpList_load_row_w rfl 28 (.tmp 3) rfl g rfl _ R (0, 0) _ HB2.out Try.underlying28 rfl HINF.out ?_) | (refine wpList_store_rowTo rfl 28 (.tmp 8) (.tmp 20) rfl rfl w6.heap.size R rfl rfl _ _ HEP2.out.1 HEP2.out.2.1 HEP2.out.2.2.1 HEP2.out.2.2.2 ?_))
  have HEB6 := Lib.hid HPU.out.2.2.1
  have A6 := HPU.out.2.2.2
  obtain ⟨W6, hW6⟩ : ∃ W6, (w6.alloc (.cells entZ 28)).setRow w6.heap.size R = W6 := ⟨_, rfl⟩
  have HB3 := Lib.hid (HB2.out.aft A6)
  have HP1 := Lib.hid HPU.out.1
  have HP2 := Lib.hid HPU.out.2.1
  rw [hW6] at HEB6 HB3 HP1 HP2
  rw [show (w6.alloc (.cells #[.string ⟨#[]⟩, .string ⟨#[]⟩, .string ⟨#[]⟩, .string ⟨#[]⟩, .slice none 0 0, .int .i64 0, .int .i64 0, .slice none 0 0, .int .i64 0, .string ⟨#[]⟩, .int .i64 0, .int .i64 0] 28)).setRow w6.heap.size R = W6 from hW6]
  clear hW6 A6 HPU HEP2 HEP
  have HB7 := Lib.hid (HB2.out.aft HP2.out)
  have HS7 := Lib.hid (HS2.out.aft HP2.out)
  have HF17 := Lib.hid (HF1.out.aft HP2.out)
  have HF27 := Lib.hid (HF2.out.aft HP2.out)
  have HA7 := Lib.hid (HA2.out.trans HP2.out)
  clear HP2 HB2 HS2 HF1 HF2 HA2
  generalize w6.heap.size = g2 at HEB6 HP1 HB7 HS7 HF17 HF27 HA7 ⊢
  obtain ⟨e6, e7, e10, e11⟩ := HB3.out.cells HR.out
  obtain ⟨f6, f7, f10, f11⟩ := HEB6.out.cells HR.out
  have fz : W6.frozen? ⟨g2, 7, none⟩ = false := frozen_of_row W6 g2 7 _ _ HEB6.out
  have hl3 : ls.length ≤ ls.length + 80 := by omega
  have hl4 : (ls.length : Int) ≤ ((ls.length + 80 : Nat) : Int) := by omega
  clear f6 f10 f11 e6 e10 e11
  go_upto_region 6 with fail
  clear e7 f7 fz hl3 hl4 HB3 HEB6
  generalize W6.setCell ⟨g2, 7, none⟩ (.slice (some ⟨gf, 0, none⟩) ls.length (ls.length + 80)) = W7 at HP1 HB7 HS7 HF17 HF27 HA7 ⊢
  have HR2 := Lib.hid (HR.out.set7 (.slice (some ⟨gf, 0, none⟩) ls.length (ls.length + 80)))
  generalize R.setIfInBounds 7 (.slice (some ⟨gf, 0, none⟩) ls.length (ls.length + 80)) = R2 at HP1 HR2
  have A5 := (Aft.refl W7).drew
  have D5 := Lib.hid ((Aft.refl W7).drew)
  refine wp_region_held_drew (S := fun w' => EB w' g R ∧ RbF w' (.slice as_ ls.length cs) ls) (by kernel_rfl) ⟨HB7.out.aft D5.out, HS7.out.aft D5.out⟩ (fun hHeld => ?_)
  refine wpAnyH_take (i := 0) (oi := { dst := some 29, op := Go.Op.load 28 (Go.Operand.tmp 3), type := 28, pos := _, after := _, guard := _ }) (v := ?_) rfl (by kernel_rfl) (by kernel_rfl) (by kernel_rfl) (fun _ _ _ h => h) (Or.inl ⟨by rfl, ?_⟩) (by exact hHeld) ?_
  rotate_left
  · intro w hSw; refine exec_load _ (.tmp 3) ?_ g ?_ R (hSw.1.load HR.out) <;> rfl
  try simp only [Act.put]
  try simp only [List.setIfInBounds_toArray]
  try simp only [List.set]
  refine wpAnyH_take (i := 1) (oi := { dst := some 30, op := Go.Op.move (Go.Operand.tmp 2), type := 29, pos := _, after := _, guard := _ }) (v := ?_) rfl (by kernel_rfl) (by kernel_rfl) (by kernel_rfl) (fun _ _ _ h => h) (Or.inl ⟨by rfl, ?_⟩) (by exact hHeld) ?_
  rotate_left
  · intro w hSw; go_simp; try with_reducible rfl
  try simp only [Act.put]
  try simp only [List.setIfInBounds_toArray]
  try simp only [List.set]
  refine wpAnyH_take (i := 3) (oi := { dst := some 32, op := Go.Op.load 28 (Go.Operand.tmp 3), type := 28, pos := _, after := _, guard := _ }) (v := ?_) rfl (by kernel_rfl) (by kernel_rfl) (by kernel_rfl) (fun _ _ _ h => h) (Or.inl ⟨by rfl, ?_⟩) (by exact hHeld) ?_
  rotate_left
  · intro w hSw; refine exec_load _ (.tmp 3) ?_ g ?_ R (hSw.1.load HR.out) <;> rfl
  try simp only [Act.put]
  try simp only [List.setIfInBounds_toArray]
  try simp only [List.set]
  refine wpAnyH_take (i := 4) (oi := { dst := some 33, op := Go.Op.move (Go.Operand.tmp 1), type := 3, pos := _, after := _, guard := _ }) (v := ?_) rfl (by kernel_rfl) (by kernel_rfl) (by kernel_rfl) (fun _ _ _ h => h) (Or.inl ⟨by rfl, ?_⟩) (by exact hHeld) ?_
  rotate_left
  · intro w hSw; go_simp; try with_reducible rfl
  try simp only [Act.put]
  try simp only [List.setIfInBounds_toArray]
  try simp only [List.set]
  refine wpAnyH_ready (rs := [2]) (by kernel_rfl) (by simp) ?_
  refine AllReadyH.cons (o := { dst := some 31, op := Go.Op.call { callee := Go.Callee.value (Go.Operand.func 17), args := #[Go.Operand.tmp 29, Go.Operand.tmp 30], argTypes := #[28, 29] }, type := 3, pos := _, after := _, guard := _ }) rfl (fun K hK => ?_) AllReadyH.nil
  go_simp
  go_at_call 17
  refine (HRL.out _ hHeld.2).mono ?_
  rintro e w8 ⟨rfl, a6⟩
  have hS2 := And.intro (hHeld.1.aft a6) (hHeld.2.aft a6)
  have A6 := Aft.trans A5 a6
  clear A5
  have A5 := A6
  clear A6 a6
  clear hHeld
  refine hK.out _ _ hS2 (fun hHeld => ?_)
  clear hK K hS2
  try simp only [Act.put]
  try simp only [List.setIfInBounds_toArray]
  try simp only [List.set]
  refine wpAnyH_ready (rs := [5]) (by kernel_rfl) (by simp) ?_
  refine AllReadyH.cons (o := { dst := some 34, op := Go.Op.call { callee := Go.Callee.value (Go.Operand.func 18), args := #[Go.Operand.tmp 32, Go.Operand.tmp 33], argTypes := #[28, 3] }, type := 3, pos := _, after := _, guard := _ }) rfl (fun K hK => ?_) AllReadyH.nil
  go_simp
  go_at_call 18
  refine (HRA.out _ hHeld.2).mono ?_
  rintro e w8 ⟨rfl, a6⟩
  have hS2 := And.intro (hHeld.1.aft a6) (hHeld.2.aft a6)
  have A6 := Aft.trans A5 a6
  clear A5
  have A5 := A6
  clear A6 a6
  clear hHeld
  refine hK.out _ _ hS2 (fun hHeld => ?_)
  clear hK K hS2
  try simp only [Act.put]
  try simp only [List.setIfInBounds_toArray]
  try simp only [List.set]
  refine wpAnyH_take (i := 6) (oi := { dst := some 9, op := Go.Op.assign (Go.Operand.tmp 31), type := 3, pos := _, after := _, guard := _ }) (v := ?_) rfl (by kernel_rfl) (by kernel_rfl) (by kernel_rfl) (fun _ _ _ h => h) (Or.inl ⟨by rfl, ?_⟩) (by exact hHeld) ?_
  rotate_left
  · intro w hSw; go_simp; try with_reducible rfl
  try simp only [Act.put]
  try simp only [List.setIfInBounds_toArray]
  try simp only [List.set]
  refine wpAnyH_take (i := 7) (oi := { dst := some 10, op := Go.Op.assign (Go.Operand.tmp 34), type := 3, pos := _, after := _, guard := _ }) (v := ?_) rfl (by kernel_rfl) (by kernel_rfl) (by kernel_rfl) (fun _ _ _ h => h) (Or.inl ⟨by rfl, ?_⟩) (by exact hHeld) ?_
  rotate_left
  · intro w hSw; go_simp; try with_reducible rfl
  try simp only [Act.put]
  try simp only [List.setIfInBounds_toArray]
  try simp only [List.set]
  refine wpAnyH_done (by kernel_rfl) ?_ _
  rename_i w9
  have HB8 := Lib.hid hHeld.1
  have HS8 := Lib.hid hHeld.2
  have HP8 := Lib.hid (HP1.out.aft A5)
  have HF18 := Lib.hid (HF17.out.aft A5)
  have HF28 := Lib.hid (HF27.out.aft A5)
  have HA8 := Lib.hid (HA7.out.trans A5)
  clear hHeld A5 D5 HB7 HS7 HP1 HF17 HF27 HA7
  go_upto_region 7 with fail
  have A5 := (Aft.refl w8).drew
  have hH0 : TH g g2 gf R R2 (.slice as_ ls.length cs) ls w8 := ⟨HB8.out, HP8.out, HS8.out, HF28.out, HF18.out⟩
  have D5 := Lib.hid (hH0.aft A5)
  clear hH0 HB8 HP8 HS8 HF28 HF18
  refine wp_region_held_drew (S := TH g g2 gf R R2 (.slice as_ ls.length cs) ls) (by kernel_rfl) D5.out (fun hHeld => ?_)
  refine wpAnyH_take (i := 0) (oi := { dst := some 35, op := Go.Op.load 28 (Go.Operand.tmp 8), type := 28, pos := _, after := _, guard := _ }) (v := ?_) rfl (by kernel_rfl) (by kernel_rfl) (by kernel_rfl) (fun _ _ _ h => h) (Or.inl ⟨by rfl, ?_⟩) (by exact hHeld) ?_
  rotate_left
  · intro w hSw; refine exec_load _ (.tmp 8) ?_ g2 ?_ R2 (hSw.p.load HR2.out) <;> rfl
  try simp only [Act.put]
  try simp only [List.setIfInBounds_toArray]
  try simp only [List.set]
  refine wpAnyH_take (i := 1) (oi := { dst := some 36, op := Go.Op.move (Go.Operand.tmp 2), type := 29, pos := _, after := _, guard := _ }) (v := ?_) rfl (by kernel_rfl) (by kernel_rfl) (by kernel_rfl) (fun _ _ _ h => h) (Or.inl ⟨by rfl, ?_⟩) (by exact hHeld) ?_
  rotate_left
  · intro w hSw; go_simp; try with_reducible rfl
  try simp only [Act.put]
  try simp only [List.setIfInBounds_toArray]
  try simp only [List.set]
  refine wpAnyH_take (i := 3) (oi := { dst := some 38, op := Go.Op.move (Go.Operand.tmp 9), type := 3, pos := _, after := _, guard := _ }) (v := ?_) rfl (by kernel_rfl) (by kernel_rfl) (by kernel_rfl) (fun _ _ _ h => h) (Or.inl ⟨by rfl, ?_⟩) (by exact hHeld) ?_
  rotate_left
  · intro w hSw; go_simp; try with_reducible rfl
  try simp only [Act.put]
  try simp only [List.setIfInBounds_toArray]
  try simp only [List.set]
  refine wpAnyH_ready (rs := [2]) (by kernel_rfl) (by simp) ?_
  refine AllReadyH.cons (o := { dst := some 37, op := Go.Op.call { callee := Go.Callee.value (Go.Operand.func 14), args := #[Go.Operand.tmp 35, Go.Operand.tmp 36], argTypes := #[28, 29] }, type := 3, pos := _, after := _, guard := _ }) rfl (fun K hK => ?_) AllReadyH.nil
  go_simp
  go_at_call 14
  refine (HLF.out R2 _ _ HR2.out hHeld.f).mono ?_
  rintro e w9 ⟨rfl, a6⟩
  have hS2 := TH.aft hHeld a6
  have A6 := Aft.trans A5 a6
  clear A5
  have A5 := A6
  clear A6 a6
  clear hHeld
  refine hK.out _ _ hS2 (fun hHeld => ?_)
  clear hK K hS2
  try simp only [Act.put]
  try simp only [List.setIfInBounds_toArray]
  try simp only [List.set]
  refine wpAnyH_take (i := 4) (oi := { dst := some 39, op := Go.Op.binOp Go.BinOp.eql 3 (Go.Operand.tmp 37) (Go.Operand.tmp 38) 3, type := 4, pos := _, after := _, guard := _ }) (v := ?_) rfl (by kernel_rfl) (by kernel_rfl) (by kernel_rfl) (fun _ _ _ h => h) (Or.inl ⟨by rfl, ?_⟩) (by exact hHeld) ?_
  rotate_left
  · intro w hSw; go_simp; try with_reducible rfl
  try simp only [Act.put]
  try simp only [List.setIfInBounds_toArray]
  try simp only [List.set]
  refine wpAnyH_take (i := 5) (oi := { dst := some 40, op := Go.Op.move (Go.Operand.tmp 39), type := 4, pos := _, after := _, guard := _ }) (v := ?_) rfl (by kernel_rfl) (by kernel_rfl) (by kernel_rfl) (fun _ _ _ h => h) (Or.inl ⟨by rfl, ?_⟩) (by exact hHeld) ?_
  rotate_left
  · intro w hSw; go_simp; try with_reducible rfl
  try simp only [Act.put]
  try simp only [List.setIfInBounds_toArray]
  try simp only [List.set]
  refine wpAnyH_take (i := 6) (oi := { dst := some 41, op := Go.Op.load 28 (Go.Operand.tmp 8), type := 28, pos := _, after := _, guard := _ }) (v := ?_) rfl (by kernel_rfl) (by kernel_rfl) (by kernel_rfl) (fun _ _ _ h => h) (Or.inl ⟨by rfl, ?_⟩) (by exact hHeld) ?_
  rotate_left
  · intro w hSw; refine exec_load _ (.tmp 8) ?_ g2 ?_ R2 (hSw.p.load HR2.out) <;> rfl
  try simp only [Act.put]
  try simp only [List.setIfInBounds_toArray]
  try simp only [List.set]
  refine wpAnyH_take (i := 7) (oi := { dst := some 42, op := Go.Op.move (Go.Operand.tmp 1), type := 3, pos := _, after := _, guard := _ }) (v := ?_) rfl (by kernel_rfl) (by kernel_rfl) (by kernel_rfl) (fun _ _ _ h => h) (Or.inl ⟨by rfl, ?_⟩) (by exact hHeld) ?_
  rotate_left
  · intro w hSw; go_simp; try with_reducible rfl
  try simp only [Act.put]
  try simp only [List.setIfInBounds_toArray]
  try simp only [List.set]
  refine wpAnyH_take (i := 9) (oi := { dst := some 44, op := Go.Op.move (Go.Operand.tmp 10), type := 3, pos := _, after := _, guard := _ }) (v := ?_) rfl (by kernel_rfl) (by kernel_rfl) (by kernel_rfl) (fun _ _ _ h => h) (Or.inl ⟨by rfl, ?_⟩) (by exact hHeld) ?_
  rotate_left
  · intro w hSw; go_simp; try with_reducible rfl
  try simp only [Act.put]
  try simp only [List.setIfInBounds_toArray]
  try simp only [List.set]
  refine wpAnyH_ready (rs := [8]) (by kernel_rfl) (by simp) ?_
  refine AllReadyH.cons (o := { dst := some 43, op := Go.Op.call { callee := Go.Callee.value (Go.Operand.func 13), args := #[Go.Operand.tmp 41, Go.Operand.tmp 42], argTypes := #[28, 3] }, type := 3, pos := _, after := _, guard := _ }) rfl (fun K hK => ?_) AllReadyH.nil
  go_simp
  go_at_call 13
  refine (HAG.out R2 _ _ HR2.out hHeld.f).mono ?_
  rintro e w9 ⟨rfl, a6⟩
  have hS2 := TH.aft hHeld a6
  have A6 := Aft.trans A5 a6
  clear A5
  have A5 := A6
  clear A6 a6
  clear hHeld
  refine hK.out _ _ hS2 (fun hHeld => ?_)
  clear hK K hS2
  try simp only [Act.put]
  try simp only [List.setIfInBounds_toArray]
  try simp only [List.set]
  refine wpAnyH_take (i := 10) (oi := { dst := some 45, op := Go.Op.binOp Go.BinOp.eql 3 (Go.Operand.tmp 43) (Go.Operand.tmp 44) 3, type := 4, pos := _, after := _, guard := _ }) (v := ?_) rfl (by kernel_rfl) (by kernel_rfl) (by kernel_rfl) (fun _ _ _ h => h) (Or.inl ⟨by rfl, ?_⟩) (by exact hHeld) ?_
  rotate_left
  · intro w hSw; go_simp; try with_reducible rfl
  try simp only [Act.put]
  try simp only [List.setIfInBounds_toArray]
  try simp only [List.set]
  refine wpAnyH_take (i := 11) (oi := { dst := some 46, op := Go.Op.pick (Go.Operand.tmp 40) (Go.Operand.tmp 45) (Go.Operand.const (Go.Value.bool false)), type := 4, pos := _, after := _, guard := _ }) (v := ?_) rfl (by kernel_rfl) (by kernel_rfl) (by kernel_rfl) (fun _ _ _ h => h) (Or.inl ⟨by rfl, ?_⟩) (by exact hHeld) ?_
  rotate_left
  · intro w hSw; go_simp; try with_reducible rfl
  try simp only [Act.put]
  try simp only [List.setIfInBounds_toArray]
  try simp only [List.set]
  refine wpAnyH_take (i := 12) (oi := { dst := some 47, op := Go.Op.move (Go.Operand.tmp 46), type := 4, pos := _, after := _, guard := _ }) (v := ?_) rfl (by kernel_rfl) (by kernel_rfl) (by kernel_rfl) (fun _ _ _ h => h) (Or.inl ⟨by rfl, ?_⟩) (by exact hHeld) ?_
  rotate_left
  · intro w hSw; go_simp; try with_reducible rfl
  try simp only [Act.put]
  try simp only [List.setIfInBounds_toArray]
  try simp only [List.set]
  refine wpAnyH_take (i := 13) (oi := { dst := some 48, op := Go.Op.load 28 (Go.Operand.tmp 8), type := 28, pos := _, after := _, guard := _ }) (v := ?_) rfl (by kernel_rfl) (by kernel_rfl) (by kernel_rfl) (fun _ _ _ h => h) (Or.inl ⟨by rfl, ?_⟩) (by exact hHeld) ?_
  rotate_left
  · intro w hSw; refine exec_load _ (.tmp 8) ?_ g2 ?_ R2 (hSw.p.load HR2.out) <;> rfl
  try simp only [Act.put]
  try simp only [List.setIfInBounds_toArray]
  try simp only [List.set]
  refine wpAnyH_take (i := 14) (oi := { dst := some 49, op := Go.Op.move (Go.Operand.tmp 1), type := 3, pos := _, after := _, guard := _ }) (v := ?_) rfl (by kernel_rfl) (by kernel_rfl) (by kernel_rfl) (fun _ _ _ h => h) (Or.inl ⟨by rfl, ?_⟩) (by exact hHeld) ?_
  rotate_left
  · intro w hSw; go_simp; try with_reducible rfl
  try simp only [Act.put]
  try simp only [List.setIfInBounds_toArray]
  try simp only [List.set]
  refine wpAnyH_take (i := 15) (oi := { dst := some 50, op := Go.Op.move (Go.Operand.tmp 2), type := 29, pos := _, after := _, guard := _ }) (v := ?_) rfl (by kernel_rfl) (by kernel_rfl) (by kernel_rfl) (fun _ _ _ h => h) (Or.inl ⟨by rfl, ?_⟩) (by exact hHeld) ?_
  rotate_left
  · intro w hSw; go_simp; try with_reducible rfl
  try simp only [Act.put]
  try simp only [List.setIfInBounds_toArray]
  try simp only [List.set]
  refine wpAnyH_take (i := 17) (oi := { dst := some 52, op := Go.Op.move (Go.Operand.tmp 9), type := 3, pos := _, after := _, guard := _ }) (v := ?_) rfl (by kernel_rfl) (by kernel_rfl) (by kernel_rfl) (fun _ _ _ h => h) (Or.inl ⟨by rfl, ?_⟩) (by exact hHeld) ?_
  rotate_left
  · intro w hSw; go_simp; try with_reducible rfl
  try simp only [Act.put]
  try simp only [List.setIfInBounds_toArray]
  try simp only [List.set]
  refine wpAnyH_take (i := 18) (oi := { dst := some 53, op := Go.Op.move (Go.Operand.tmp 10), type := 3, pos := _, after := _, guard := _ }) (v := ?_) rfl (by kernel_rfl) (by kernel_rfl) (by kernel_rfl) (fun _ _ _ h => h) (Or.inl ⟨by rfl, ?_⟩) (by exact hHeld) ?_
  rotate_left
  · intro w hSw; go_simp; try with_reducible rfl
  try simp only [Act.put]
  try simp only [List.setIfInBounds_toArray]
  try simp only [List.set]
  refine wpAnyH_take (i := 19) (oi := { dst := some 54, op := Go.Op.binOp Go.BinOp.sub 3 (Go.Operand.tmp 52) (Go.Operand.tmp 53) 3, type := 3, pos := _, after := _, guard := _ }) (v := ?_) rfl (by kernel_rfl) (by kernel_rfl) (by kernel_rfl) (fun _ _ _ h => h) (Or.inl ⟨by rfl, ?_⟩) (by exact hHeld) ?_
  rotate_left
  · intro w hSw; go_simp; try with_reducible rfl
  try simp only [Act.put]
  try simp only [List.setIfInBounds_toArray]
  try simp only [List.set]
  refine wpAnyH_ready (rs := [16]) (by kernel_rfl) (by simp) ?_
  refine AllReadyH.cons (o := { dst := some 51, op := Go.Op.call { callee := Go.Callee.value (Go.Operand.func 19), args := #[Go.Operand.tmp 48, Go.Operand.tmp 49, Go.Operand.tmp 50], argTypes := #[28, 3, 29] }, type := 3, pos := _, after := _, guard := _ }) rfl (fun K hK => ?_) AllReadyH.nil
  go_simp
  go_at_call 19
  refine (HLE.out R2 _ _ HR2.out hHeld.f).mono ?_
  rintro e w9 ⟨rfl, a6⟩
  have hS2 := TH.aft hHeld a6
  have A6 := Aft.trans A5 a6
  clear A5
  have A5 := A6
  clear A6 a6
  clear hHeld
  refine hK.out _ _ hS2 (fun hHeld => ?_)
  clear hK K hS2
  try simp only [Act.put]
  try simp only [List.setIfInBounds_toArray]
  try simp only [List.set]
  refine wpAnyH_take (i := 20) (oi := { dst := some 55, op := Go.Op.binOp Go.BinOp.eql 3 (Go.Operand.tmp 51) (Go.Operand.tmp 54) 3, type := 4, pos := _, after := _, guard := _ }) (v := ?_) rfl (by kernel_rfl) (by kernel_rfl) (by kernel_rfl) (fun _ _ _ h => h) (Or.inl ⟨by rfl, ?_⟩) (by exact hHeld) ?_
  rotate_left
  · intro w hSw; go_simp; try with_reducible rfl
  try simp only [Act.put]
  try simp only [List.setIfInBounds_toArray]
  try simp only [List.set]
  refine wpAnyH_take (i := 21) (oi := { dst := some 56, op := Go.Op.pick (Go.Operand.tmp 47) (Go.Operand.tmp 55) (Go.Operand.const (Go.Value.bool false)), type := 4, pos := _, after := _, guard := _ }) (v := ?_) rfl (by kernel_rfl) (by kernel_rfl) (by kernel_rfl) (fun _ _ _ h => h) (Or.inl ⟨by rfl, ?_⟩) (by exact hHeld) ?_
  rotate_left
  · intro w hSw; go_simp; try with_reducible rfl
  try simp only [Act.put]
  try simp only [List.setIfInBounds_toArray]
  try simp only [List.set]
  refine wpAnyH_take (i := 22) (oi := { dst := some 57, op := Go.Op.move (Go.Operand.tmp 56), type := 4, pos := _, after := _, guard := _ }) (v := ?_) rfl (by kernel_rfl) (by kernel_rfl) (by kernel_rfl) (fun _ _ _ h => h) (Or.inl ⟨by rfl, ?_⟩) (by exact hHeld) ?_
  rotate_left
  · intro w hSw; go_simp; try with_reducible rfl
  try simp only [Act.put]
  try simp only [List.setIfInBounds_toArray]
  try simp only [List.set]
  refine wpAnyH_take (i := 23) (oi := { dst := some 58, op := Go.Op.move (Go.Operand.tmp 7), type := 22, pos := _, after := _, guard := _ }) (v := ?_) rfl (by kernel_rfl) (by kernel_rfl) (by kernel_rfl) (fun _ _ _ h => h) (Or.inl ⟨by rfl, ?_⟩) (by exact hHeld) ?_
  rotate_left
  · intro w hSw; go_simp; try with_reducible rfl
  try simp only [Act.put]
  try simp only [List.setIfInBounds_toArray]
  try simp only [List.set]
  refine wpAnyH_take (i := 24) (oi := { dst := some 59, op := Go.Op.fieldAddr 28 (Go.Operand.tmp 3) 1, type := 0, pos := _, after := _, guard := _ }) (v := ?_) rfl (by kernel_rfl) (by kernel_rfl) (by kernel_rfl) (fun _ _ _ h => h) (Or.inl ⟨by rfl, ?_⟩) (by exact hHeld) ?_
  rotate_left
  · intro w hSw; go_simp; try with_reducible rfl
  try simp only [Act.put]
  try simp only [List.setIfInBounds_toArray]
  try simp only [List.set]
  refine wpAnyH_take (i := 25) (oi := { dst := some 60, op := Go.Op.fieldAddr 26 (Go.Operand.tmp 59) 1, type := 0, pos := _, after := _, guard := _ }) (v := ?_) rfl (by kernel_rfl) (by kernel_rfl) (by kernel_rfl) (fun _ _ _ h => h) (Or.inl ⟨by rfl, ?_⟩) (by exact hHeld) ?_
  rotate_left
  · intro w hSw; go_simp; try with_reducible rfl
  try simp only [Act.put]
  try simp only [List.setIfInBounds_toArray]
  try simp only [List.set]
  refine wpAnyH_take (i := 26) (oi := { dst := some 61, op := Go.Op.load 22 (Go.Operand.tmp 60), type := 22, pos := _, after := _, guard := _ }) (v := ?_) rfl (by kernel_rfl) (by kernel_rfl) (by kernel_rfl) (fun _ _ _ h => h) (Or.inl ⟨by rfl, ?_⟩) (by exact hHeld) ?_
  rotate_left
  · intro w hSw; obtain ⟨e6, e7, e10, e11⟩ := hSw.b.cells HR.out; go_simp; try with_reducible rfl
  try simp only [Act.put]
  try simp only [List.setIfInBounds_toArray]
  try simp only [List.set]
  refine wpAnyH_ready (rs := [27]) (by kernel_rfl) (by simp) ?_
  refine AllReadyH.cons (o := { dst := some 62, op := Go.Op.call { callee := Go.Callee.value (Go.Operand.func 16), args := #[Go.Operand.const (Go.Value.string { data := #[109] }), Go.Operand.const (Go.Value.string { data := #[] })], argTypes := #[9, 9] }, type := 38, pos := _, after := _, guard := _ }) rfl (fun K hK => ?_) AllReadyH.nil
  go_simp
  go_at_call 16
  refine (of19_any _ _ _).mono ?_
  rintro e w9 ⟨rfl, a6⟩
  have hS2 := TH.aft hHeld a6
  have A6 := Aft.trans A5 a6
  clear A5
  have A5 := A6
  clear A6 a6
  clear hHeld
  refine hK.out _ _ hS2 (fun hHeld => ?_)
  clear hK K hS2
  try simp only [Act.put]
  try simp only [List.setIfInBounds_toArray]
  try simp only [List.set]
  refine wpAnyH_ready (rs := [28]) (by kernel_rfl) (by simp) ?_
  refine AllReadyH.cons (o := { dst := some 63, op := Go.Op.call { callee := Go.Callee.value (Go.Operand.func 20), args := #[Go.Operand.tmp 58, Go.Operand.tmp 61, Go.Operand.tmp 62], argTypes := #[22, 22, 38] }, type := 4, pos := _, after := _, guard := _ }) rfl (fun K hK => ?_) AllReadyH.nil
  go_simp
  go_at_call 20
  refine (HIN.out _ _ hHeld.full hHeld.s).mono ?_
  rintro e w9 ⟨rfl, a6⟩
  have hS2 := TH.aft hHeld a6
  have A6 := Aft.trans A5 a6
  clear A5
  have A5 := A6
  clear A6 a6
  clear hHeld
  refine hK.out _ _ hS2 (fun hHeld => ?_)
  clear hK K hS2
  try simp only [Act.put]
  try simp only [List.setIfInBounds_toArray]
  try simp only [List.set]
  refine wpAnyH_take (i := 29) (oi := { dst := some 64, op := Go.Op.pick (Go.Operand.tmp 57) (Go.Operand.tmp 63) (Go.Operand.const (Go.Value.bool false)), type := 4, pos := _, after := _, guard := _ }) (v := ?_) rfl (by kernel_rfl) (by kernel_rfl) (by kernel_rfl) (fun _ _ _ h => h) (Or.inl ⟨by rfl, ?_⟩) (by exact hHeld) ?_
  rotate_left
  · intro w hSw; go_simp; try with_reducible rfl
  try simp only [Act.put]
  try simp only [List.setIfInBounds_toArray]
  try simp only [List.set]
  refine wpAnyH_take (i := 30) (oi := { dst := some 65, op := Go.Op.move (Go.Operand.tmp 64), type := 4, pos := _, after := _, guard := _ }) (v := ?_) rfl (by kernel_rfl) (by kernel_rfl) (by kernel_rfl) (fun _ _ _ h => h) (Or.inl ⟨by rfl, ?_⟩) (by exact hHeld) ?_
  rotate_left
  · intro w hSw; go_simp; try with_reducible rfl
  try simp only [Act.put]
  try simp only [List.setIfInBounds_toArray]
  try simp only [List.set]
  refine wpAnyH_ready (rs := [31]) (by kernel_rfl) (by simp) ?_
  refine AllReadyH.cons (o := { dst := some 66, op := Go.Op.call { callee := Go.Callee.value (Go.Operand.func 11), args := #[], argTypes := #[] }, type := 4, pos := _, after := _, guard := _ }) rfl (fun K hK => ?_) AllReadyH.nil
  go_simp
  go_at_call 11
  refine (freshruns_any _).mono ?_
  rintro e w9 ⟨rfl, a6⟩
  have hS2 := TH.aft hHeld a6
  have A6 := Aft.trans A5 a6
  clear A5
  have A5 := A6
  clear A6 a6
  clear hHeld
  refine hK.out _ _ hS2 (fun hHeld => ?_)
  clear hK K hS2
  try simp only [Act.put]
  try simp only [List.setIfInBounds_toArray]
  try simp only [List.set]
  refine wpAnyH_take (i := 32) (oi := { dst := some 67, op := Go.Op.pick (Go.Operand.tmp 65) (Go.Operand.tmp 66) (Go.Operand.const (Go.Value.bool false)), type := 4, pos := _, after := _, guard := _ }) (v := ?_) rfl (by kernel_rfl) (by kernel_rfl) (by kernel_rfl) (fun _ _ _ h => h) (Or.inl ⟨by rfl, ?_⟩) (by exact hHeld) ?_
  rotate_left
  · intro w hSw; go_simp; try with_reducible rfl
  try simp only [Act.put]
  try simp only [List.setIfInBounds_toArray]
  try simp only [List.set]
  refine wpAnyH_take (i := 33) (oi := { dst := some 6, op := Go.Op.assign (Go.Operand.tmp 67), type := 4, pos := _, after := _, guard := _ }) (v := ?_) rfl (by kernel_rfl) (by kernel_rfl) (by kernel_rfl) (fun _ _ _ h => h) (Or.inl ⟨by rfl, ?_⟩) (by exact hHeld) ?_
  rotate_left
  · intro w hSw; go_simp; try with_reducible rfl
  try simp only [Act.put]
  try simp only [List.setIfInBounds_toArray]
  try simp only [List.set]
  refine wpAnyH_done (by kernel_rfl) ?_ _
  have HA9 := Lib.hid (HA8.out.trans A5)
  clear hHeld A5 D5 HA8
  go_wp2_with fail
  go_ret
  exact ⟨rfl, HA9.out⟩

set_option maxRecDepth 100000 in
theorem walkFreshTells (w : World) (hsh : w.ShapedOpen Try.prog) {H : Type} {enc : TypeId × Value → H} {base : Nat} {v0 : Value} {d0 : DataW H} {p0 : List MemPlace}
    (hval0 : Value.okWide Try.prog w .any base 28 v0) (k0 : DataW.Trod enc Try.prog w 0 (fun _ => true) true 28 v0 d0 p0)
    (a1 : Int) (w1 : (Lit.int .i64 a1).wf = true) (x : Nat) (wx : (Lit.float .f64 x).wf = true) (hk : (DataW.weightsEach Try.prog [28, 3, 29] [(d0 : DataW H), .lit (.int .i64 a1), .lit (.float .f64 x)]).all (· ≤ reachBytes) = true) :
    Calls Try.prog 4 #[v0, .int .i64 a1, .float .f64 x] w fun e w' => e = .returned (.bool true) ∧ Aft w w' := by
  obtain ⟨R, st, vq, vs, ask, ca, bd, lq, ls, rfl, hR, hq, hs, bq, bs, hz⟩ := open_entR hval0 k0 (wt_at hk (j := 0) rfl rfl)
  exact freshtells_any R st vq vs ask ca bd lq ls a1 x w hR hq hs bq bs

end Go.Proofs.Ytdcdckjdloddiaa
