/-
  FreshShares.
-/
import Derived.Test.YtimpnknmhbpffaaFrFirst
import Derived.Deep.RegionHeld
namespace Go.Proofs.Ytimpnknmhbpffaa
open Go.RowKit
set_option linter.unusedVariables false

/-- The NaN that the division of 0 by 0 hands back: its bits are open. -/
def nanV (w : World) : Nat := Question.cut (.nanBits .f64 0 0) (w.tape w.drawn (.nanBits .f64 0 0))
def ninfB : Nat := (floatBits .quo .f64 13830554455654793216 0).getD 1
def pinfB : Nat := (floatBits .quo .f64 4607182418800017408 0).getD 1
theorem nan_clean (t : Nat) : cleanB (Question.cut (.nanBits .f64 0 0) t) = 0 := by
  have hr : ∃ s u, Ieee.double.read (Question.cut (.nanBits .f64 0 0) t) = .nan s u := by
    unfold Question.cut
    obtain ⟨a, ha⟩ : ∃ a, t % 2 = a := ⟨_, rfl⟩
    obtain ⟨b, hb⟩ : ∃ b, t / 2 % (2 ^ 52 - 1) = b := ⟨_, rfl⟩
    have ha2 : a < 2 := by omega
    have hb2 : b < 4503599627370495 := by rw [← hb]; exact Nat.mod_lt _ (by decide)
    simp only
    rw [ha, hb]
    have e0 : (2 : Nat) ^ 63 = 9223372036854775808 := by decide
    rw [e0]
    unfold Ieee.Format.read
    rw [signWeight_double, binade_double, infRung_double, leastPlace_double]
    have e1 : (a * 9223372036854775808 + 9218868437227405312 + 1 + b) % 9223372036854775808 = 9218868437227405313 + b := by omega
    simp only [e1]
    rw [if_neg (by omega), if_neg (by omega)]
    first
      | exact ⟨_, _, rfl⟩
      | (rw [if_neg (by omega)]; exact ⟨_, _, rfl⟩)
  obtain ⟨s, u, hr⟩ := hr
  unfold cleanB Ieee.Format.order
  rw [hr]
  rfl
theorem nan_run (w : World) : (binOp .quo 34 (.float .f64 0) (.float .f64 0)).run Try.prog w = .ok (.float .f64 (nanV w)) w.drew := by
  have h : FloatKind.f64.format.div 0 0 = none := by decide +kernel
  simp [binOp, Op.floatArith, h, choose, Sem.run, Question.forced, nanV]
  try rfl
theorem ninf_run : floatBits .quo .f64 13830554455654793216 0 = some ninfB ∧ cleanB ninfB = 0 := by decide +kernel
theorem pinf_run : floatBits .quo .f64 4607182418800017408 0 = some pinfB ∧ cleanB pinfB = oneB := by decide +kernel

theorem EB.grown {w w' : World} {g : Nat} {R : Array Value} {row : Option Nat} (h : EB w g R) (hg : w.grownBy w' row) (hne : row ≠ some g) : EB w' g R := by
  have hl := h.lt
  unfold EB at h ⊢
  rw [hg.block g hl (fun e => hne e.symm)]
  exact h
theorem EB.put7 {w : World} {g : Nat} {v : Value} (h : EB w g (entR v 0 0)) (u : Value) : EB (w.setCell ⟨g, 7, none⟩ u) g (entR u 0 0) := by
  unfold EB at h ⊢
  rw [heap_setCell_same w g 7 _ _ u h]
  rfl

theorem RbF.put19 {w : World} {v : Value} {l : List FieldL} (h : RbF w v l) (p : Addr) (a : Option Addr) (n c : Nat) (hp : w.cell? p = some (.slice a n c)) (u : Value) : RbF (w.setCell p u) v l := by
  rcases h with h | ⟨b, off, cap, e1, h1, h2, h3, h4⟩
  · exact Or.inl h
  · refine Or.inr ⟨b, off, cap, e1, h1, h2, by rw [World.size_setCell]; exact h3, fun i hi => ?_⟩
    obtain ⟨c1, c2⟩ := h4 i hi
    have key : ∀ (q : Addr) (x : List UInt8), w.cell? q = some (strV x) → (w.setCell p u).cell? q = some (strV x) := fun q x hq => by
      rw [World.cell?_setCell_other _ _ _ _ (fun e => by subst e; rw [hp] at hq; cases hq)]
      exact hq
    exact ⟨key _ _ c1, key _ _ c2⟩
set_option maxHeartbeats 16000000 in
set_option maxRecDepth 100000 in
theorem freshshares_any (d b : Nat) (x : Nat) (d1 : d ≤ 65535) (b1 : b ≤ 65535) (w : World) :
    Calls Try.prog 7 #[.int .u16 (d : Int), .int .u16 (b : Int), .float .f64 x] w fun e w' => e = .returned (.bool true) ∧ Aft w w' := by
  obtain ⟨D0, hD0⟩ : ∃ D : ByteArray, D.data.toList = showF 784111777 := ⟨⟨(showF 784111777).toArray⟩, rfl⟩
  obtain ⟨D1, hD1⟩ : ∃ D : ByteArray, D.data.toList = showF (784111777 - (d : Int)) := ⟨⟨(showF (784111777 - (d : Int))).toArray⟩, rfl⟩
  obtain ⟨Xb, hXb⟩ : ∃ D : ByteArray, D.data.toList = decD b := ⟨⟨(decD b).toArray⟩, rfl⟩
  have HS0 := Lib.hid (fun w => show_of 784111777 (by decide) (by decide) D0 hD0 w)
  have HS1 := Lib.hid (fun w => show_of (784111777 - (d : Int)) (by omega) (by omega) D1 hD1 w)
  have HGb := Lib.hid (fun w => digits_of b b1 Xb hXb w)
  have zb := dec5 b1 hXb
  have zD0 := show29 hD0 (by decide) (by decide)
  have zD1 := show29 hD1 (by omega) (by omega)
  have hsp := share_spec (d : Int) x (by omega) (by omega)
  have HL := Lib.hid (fun y => first1 (d : Int) (by omega) (by omega) 0 y)
  rw [← hD0, ← hD1] at HL
  have HLx := Lib.hid (HL.out x)
  have HL1 := Lib.hid (HL.out 4607182418800017408)
  rw [share_one (d : Int) (by omega) (by omega) (by decide +kernel)] at HL1
  have HL7 := Lib.hid (HL.out 4620130267728707584)
  rw [share_one (d : Int) (by omega) (by omega) (by decide +kernel)] at HL7
  have HL0 := Lib.hid (HL.out 0)
  rw [share_nil (d : Int) (by omega) (by omega) (by decide +kernel)] at HL0
  have HLn := Lib.hid (fun w => (HL.out (nanV w)).trans (share_nil (d : Int) (by omega) (by omega) (nan_clean _)))
  have HLm := Lib.hid (HL.out ninfB)
  rw [share_nil (d : Int) (by omega) (by omega) ninf_run.2] at HLm
  have HLp := Lib.hid (HL.out pinfB)
  rw [share_one (d : Int) (by omega) (by omega) pinf_run.2] at HLp
  obtain ⟨sh, hsh⟩ : ∃ sh, shareI (d : Int) x = sh := ⟨_, rfl⟩
  rw [hsh] at HLx hsp
  obtain ⟨-, -, s0, s1, -, -⟩ := hsp
  have q1 := nan_run
  have q2 : ∀ w : World, (binOp .quo 34 (.float .f64 13830554455654793216) (.float .f64 0)).run Try.prog w = .ok (.float .f64 ninfB) w := fun w => run_float_arith w .quo _ .f64 _ _ _ ninf_run.1
  have q3 : ∀ w : World, (binOp .quo 34 (.float .f64 4607182418800017408) (.float .f64 0)).run Try.prog w = .ok (.float .f64 pinfB) w := fun w => run_float_arith w .quo _ .f64 _ _ _ pinf_run.1
  generalize ninfB = ninfX at HLm q2
  generalize pinfB = pinfX at HLp q3
  have HX := Lib.hid hXb
  have HZ := Lib.hid (And.intro zD0 zD1)
  have HB := Lib.hid b1
  have hdb : 0 ≤ (b : Int) ∧ (b : Int) ≤ 65535 := by omega
  have hdd : 0 ≤ (d : Int) ∧ (d : Int) ≤ 65535 := by omega
  obtain ⟨ib0, ib1⟩ := hdb
  obtain ⟨id0, id1⟩ := hdd
  clear hD0 hD1 hXb zD0 zD1 b1 d1 HL hsh
  go_enter Try.func7, Try.ntmps7
  go_wp2_with fail
  refine (HS0.out _).mono ?_
  rintro e w1 ⟨rfl, r1⟩
  go_wp2_with fail
  refine (of19_any _ _ _).mono ?_
  rintro e w2 ⟨rfl, r2⟩
  go_wp2_with fail
  refine (HS1.out _).mono ?_
  rintro e w3 ⟨rfl, r3⟩
  go_wp2_with fail
  refine (of19_any _ _ _).mono ?_
  rintro e w4 ⟨rfl, r4⟩
  have A4 := Lib.hid (((r1.trans r2).trans r3).trans r4)
  clear r1 r2 r3 r4
  go_wp2_with fail
  obtain ⟨B, hB⟩ : ∃ B, w.heap.size = B := ⟨_, rfl⟩
  have hA5 : Aft w (w4.alloc (.cells #[.string ⟨#[100, 97, 116, 101]⟩, .string D0, .string ⟨#[108, 97, 115, 116, 45, 109, 111, 100, 105, 102, 105, 101, 100]⟩, .string D1] 32)) := A4.out.alloc _
  have hO5 : OwnF (w4.alloc (.cells #[.string ⟨#[100, 97, 116, 101]⟩, .string D0, .string ⟨#[108, 97, 115, 116, 45, 109, 111, 100, 105, 102, 105, 101, 100]⟩, .string D1] 32)) B (.slice (some ⟨w4.heap.size, 0, none⟩) 2 2) [f1 D0.data.toList, f2 D1.data.toList] := OwnF.base (OwnF.new2 w4 ⟨#[100, 97, 116, 101]⟩ D0 ⟨#[108, 97, 115, 116, 45, 109, 111, 100, 105, 102, 105, 101, 100]⟩ D1) (by rw [← hB]; exact A4.out.to.size)
  have HA5 := Lib.hid hA5
  have HO5 := Lib.hid hO5
  have HBB := Lib.hid hB
  clear hA5 hO5 hB A4
  have HF1 : Hid (FOk [f1 D0.data.toList, f2 D1.data.toList]) := Lib.hid (by
    have hz := HZ.out
    exact fok_small (by simp) (by intro f hf; simp [f1, f2] at hf; rcases hf with rfl | rfl <;> simp [hz.1, hz.2]))
  generalize w4.alloc (.cells #[.string ⟨#[100, 97, 116, 101]⟩, .string D0, .string ⟨#[108, 97, 115, 116, 45, 109, 111, 100, 105, 102, 105, 101, 100]⟩, .string D1] 32) = W5 at HA5 HO5 ⊢
  obtain ⟨g5, hg5⟩ : ∃ g, w4.heap.size = g := ⟨_, rfl⟩
  rw [hg5] at HO5 ⊢
  clear hg5
  refine (entry19_any _ _ _ _).mono ?_
  rintro e w6 ⟨rfl, r6⟩
  have HA6 := Lib.hid (HA5.out.trans r6)
  have HO6 := Lib.hid (HO5.out.aft r6)
  clear r6 HA5 HO5
  unfold entR
  go_upto_region 4 with fail
  have hlt : g5 < w6.heap.size := by
    have := HO6.out.lt g5 rfl
    exact this.2
  have r7 := (Aft.refl w6).alloc (.cells (entR (.slice (some ⟨g5, 0, none⟩) 2 2) 0 0) 29)
  have HEB : Hid (EB (w6.alloc (.cells (entR (.slice (some ⟨g5, 0, none⟩) 2 2) 0 0) 29)) w6.heap.size (entR (.slice (some ⟨g5, 0, none⟩) 2 2) 0 0)) := Lib.hid (heap_alloc_new w6 _)
  have HO7 := Lib.hid (HO6.out.aft r7)
  have HA7 := Lib.hid (HA6.out.trans r7)
  have HBG : Hid (B ≤ w6.heap.size) := Lib.hid (by rw [← HBB.out]; exact HA6.out.to.size)
  obtain ⟨W7, hW⟩ : ∃ W7, w6.alloc (.cells (entR (.slice (some ⟨g5, 0, none⟩) 2 2) 0 0) 29) = W7 := ⟨_, rfl⟩
  rw [hW] at HEB HO7 HA7
  rw [show w6.alloc (.cells #[.string ⟨#[]⟩, .string ⟨#[]⟩, .string ⟨#[]⟩, .string ⟨#[]⟩, .slice none 0 0, .int .i64 0, .int .i64 200, .slice (some ⟨g5, 0, none⟩) 2 2, .int .i64 0, .string ⟨#[]⟩, .int .i64 0, .int .i64 0] 29) = W7 from hW]
  clear hW r7 HO6 HA6
  have HINF := Lib.hid (entR_ok (.slice (some ⟨g5, 0, none⟩) 2 2) 0 0).info
  generalize w6.heap.size = gx at HEB hlt HBG ⊢
  have HLT := Lib.hid hlt
  clear hlt
  have HEB7 := HEB
  clear HEB
  go_wp2_with (refine wpList_load_row_w rfl 29 (.tmp 8) rfl gx rfl _ (entR (.slice (some ⟨g5, 0, none⟩) 2 2) 0 0) (0, 0) _ HEB7.out Try.underlying29 rfl HINF.out ?_)
  refine (life_of _ 0 0 _ x _ sh (HO7.out.rb) HF1.out HLx.out).mono ?_
  rintro e w8 ⟨rfl, r8⟩
  have HEB8 := Lib.hid (HEB7.out.aft r8)
  have HO8 := Lib.hid (HO7.out.aft r8)
  have HA8 := Lib.hid (HA7.out.trans r8)
  clear r8 HEB7 HO7 HA7
  go_wp2_with (refine wpList_load_row_w rfl 29 (.tmp 8) rfl gx rfl _ (entR (.slice (some ⟨g5, 0, none⟩) 2 2) 0 0) (0, 0) _ HEB8.out Try.underlying29 rfl HINF.out ?_)
  refine (life_of _ 0 0 _ 4607182418800017408 _ (d : Int) (HO8.out.rb) HF1.out HL1.out).mono ?_
  rintro e w9 ⟨rfl, r9⟩
  have HEB9 := Lib.hid (HEB8.out.aft r9)
  have HO9 := Lib.hid (HO8.out.aft r9)
  have HA9 := Lib.hid (HA8.out.trans r9)
  clear r9 HEB8 HO8 HA8
  go_wp2_with (refine wpList_load_row_w rfl 29 (.tmp 8) rfl gx rfl _ (entR (.slice (some ⟨g5, 0, none⟩) 2 2) 0 0) (0, 0) _ HEB9.out Try.underlying29 rfl HINF.out ?_)
  refine (life_of _ 0 0 _ 4620130267728707584 _ (d : Int) (HO9.out.rb) HF1.out HL7.out).mono ?_
  rintro e w10 ⟨rfl, r10⟩
  have HEB10 := Lib.hid (HEB9.out.aft r10)
  have HO10 := Lib.hid (HO9.out.aft r10)
  have HA10 := Lib.hid (HA9.out.trans r10)
  clear r10 HEB9 HO9 HA9
  go_wp2_with (refine wpList_load_row_w rfl 29 (.tmp 8) rfl gx rfl _ (entR (.slice (some ⟨g5, 0, none⟩) 2 2) 0 0) (0, 0) _ HEB10.out Try.underlying29 rfl HINF.out ?_)
  refine (life_of _ 0 0 _ 0 _ 0 (HO10.out.rb) HF1.out HL0.out).mono ?_
  rintro e w11 ⟨rfl, r11⟩
  have HEB11 := Lib.hid (HEB10.out.aft r11)
  have HO11 := Lib.hid (HO10.out.aft r11)
  have HA11 := Lib.hid (HA10.out.trans r11)
  clear r11 HEB10 HO10 HA10
  go_wp2_with (refine wpList_load_row_w rfl 29 (.tmp 8) rfl gx rfl _ (entR (.slice (some ⟨g5, 0, none⟩) 2 2) 0 0) (0, 0) _ HEB11.out Try.underlying29 rfl HINF.out ?_)
  refine (life_of _ 0 0 _ (nanV w11) _ 0 (HO11.out.rb.aft ((Aft.refl _).drew)) HF1.out (HLn.out w11)).mono ?_
  rintro e w12 ⟨rfl, r12⟩
  have HEB12 := Lib.hid ((HEB11.out.aft ((Aft.refl _).drew)).aft r12)
  have HO12 := Lib.hid ((HO11.out.aft ((Aft.refl _).drew)).aft r12)
  have HA12 := Lib.hid (HA11.out.drew.trans r12)
  clear r12 HEB11 HO11 HA11
  go_wp2_with (refine wpList_load_row_w rfl 29 (.tmp 8) rfl gx rfl _ (entR (.slice (some ⟨g5, 0, none⟩) 2 2) 0 0) (0, 0) _ HEB12.out Try.underlying29 rfl HINF.out ?_)
  refine (life_of _ 0 0 _ ninfX _ 0 (HO12.out.rb) HF1.out HLm.out).mono ?_
  rintro e w13 ⟨rfl, r13⟩
  have HEB13 := Lib.hid (HEB12.out.aft r13)
  have HO13 := Lib.hid (HO12.out.aft r13)
  have HA13 := Lib.hid (HA12.out.trans r13)
  clear r13 HEB12 HO12 HA12
  go_wp2_with (refine wpList_load_row_w rfl 29 (.tmp 8) rfl gx rfl _ (entR (.slice (some ⟨g5, 0, none⟩) 2 2) 0 0) (0, 0) _ HEB13.out Try.underlying29 rfl HINF.out ?_)
  refine (life_of _ 0 0 _ pinfX _ (d : Int) (HO13.out.rb) HF1.out HLp.out).mono ?_
  rintro e w14 ⟨rfl, r14⟩
  have HEB14 := Lib.hid (HEB13.out.aft r14)
  have HO14 := Lib.hid (HO13.out.aft r14)
  have HA14 := Lib.hid (HA13.out.trans r14)
  clear r14 HEB13 HO13 HA13
  go_upto_region 6 with fail
  have HEB15 := Lib.hid (HEB14.out.aft ((Aft.refl _).drew))
  have HO15 := Lib.hid (HO14.out.aft ((Aft.refl _).drew))
  have HA15 := Lib.hid (HA14.out.drew)
  obtain ⟨c6, c7, c10, c11⟩ := HEB15.out.cells (entR_ok (.slice (some ⟨g5, 0, none⟩) 2 2) 0 0)
  clear HEB14 HO14 HA14 c6 c10 c11
  have HEB := HEB15
  have HO := HO15
  have HA := HA15
  have HER := Lib.hid (entR_ok (.slice (some ⟨g5, 0, none⟩) 2 2) 0 0)
  have hV : (⟨#[109, 97, 120, 45, 97, 103, 101, 61]⟩ ++ Xb : ByteArray).data.toList = nMaxAge ++ 61 :: decD b := by rw [str_app19, HX.out]; rfl
  have HV := Lib.hid hV
  clear HEB15 HO15 HA15 hV
  have hcat : ¬ (9223372036854775807 < 8 + Xb.size) := by omega
  have gwb : IntKind.i64.wrap (b : Int) = (b : Int) := IntWalk.i64_in _ (by omega)
  refine wp_region_held_drew (S := fun _ => True) (by kernel_rfl) trivial (fun hHeld => ?_)
  generalize w14.drew = W15 at c7 HEB HO HA ⊢
  refine wpAnyH_take (i := 0) (oi := { dst := some 68, op := Go.Op.fieldAddr 29 (Go.Operand.tmp 8) 1, type := 0, pos := _, after := _, guard := _ }) (v := ?_) rfl (by kernel_rfl) (by kernel_rfl) (by kernel_rfl) (fun _ _ _ h => h) (Or.inl ⟨by rfl, ?_⟩) trivial ?_
  rotate_left
  · intro w hSw; go_simp; try with_reducible rfl
  try simp only [Act.put]
  try simp only [List.setIfInBounds_toArray]
  try simp only [List.set]
  refine wpAnyH_take (i := 1) (oi := { dst := some 69, op := Go.Op.fieldAddr 27 (Go.Operand.tmp 68) 1, type := 0, pos := _, after := _, guard := _ }) (v := ?_) rfl (by kernel_rfl) (by kernel_rfl) (by kernel_rfl) (fun _ _ _ h => h) (Or.inl ⟨by rfl, ?_⟩) trivial ?_
  rotate_left
  · intro w hSw; go_simp; try with_reducible rfl
  try simp only [Act.put]
  try simp only [List.setIfInBounds_toArray]
  try simp only [List.set]
  refine wpAnyH_take (i := 3) (oi := { dst := some 71, op := Go.Op.move (Go.Operand.tmp 1), type := 44, pos := _, after := _, guard := _ }) (v := ?_) rfl (by kernel_rfl) (by kernel_rfl) (by kernel_rfl) (fun _ _ _ h => h) (Or.inl ⟨by rfl, ?_⟩) trivial ?_
  rotate_left
  · intro w hSw; go_simp; try with_reducible rfl
  try simp only [Act.put]
  try simp only [List.setIfInBounds_toArray]
  try simp only [List.set]
  refine wpAnyH_take (i := 4) (oi := { dst := some 72, op := Go.Op.convert 44 3 (Go.Operand.tmp 71), type := 3, pos := _, after := _, guard := _ }) (v := ?_) rfl (by kernel_rfl) (by kernel_rfl) (by kernel_rfl) (fun _ _ _ h => h) (Or.inl ⟨by rfl, ?_⟩) trivial ?_
  rotate_left
  · intro w hSw; go_simp; try with_reducible rfl
  try simp only [Act.put]
  try simp only [List.setIfInBounds_toArray]
  try simp only [List.set]
  refine wpAnyH_ready (rs := [2, 5]) (by kernel_rfl) (by simp) ?_
  refine (AllReadyH.cons (o := { dst := some 70, op := Go.Op.load 23 (Go.Operand.tmp 69), type := 23, pos := _, after := _, guard := _ }) rfl (fun K hK => ?_) (AllReadyH.cons (o := { dst := some 73, op := Go.Op.call { callee := Go.Callee.value (Go.Operand.func 26), args := #[Go.Operand.tmp 72], argTypes := #[3] }, type := 9, pos := _, after := _, guard := _ }) rfl (fun K hK => ?_) AllReadyH.nil))
  focus
    go_simp
    skip
    refine hK.out _ _ trivial (fun hHeld => ?_)
    clear hK K
    try simp only [Act.put]
    try simp only [List.setIfInBounds_toArray]
    try simp only [List.set]
    refine wpAnyH_ready (rs := [5]) (by kernel_rfl) (by simp) ?_
    refine (AllReadyH.cons (o := { dst := some 73, op := Go.Op.call { callee := Go.Callee.value (Go.Operand.func 26), args := #[Go.Operand.tmp 72], argTypes := #[3] }, type := 9, pos := _, after := _, guard := _ }) rfl (fun K hK => ?_) AllReadyH.nil)
    go_simp
    go_at_call 26
    refine (HGb.out _).mono ?_
    rintro e w16 ⟨rfl, r16⟩
    have HEB2 := Lib.hid (HEB.out.aft r16)
    have HO2 := Lib.hid (HO.out.aft r16)
    have HA2 := Lib.hid (HA.out.trans r16)
    clear r16 HEB HO HA c7
    have HEB := HEB2
    have HO := HO2
    have HA := HA2
    clear HEB2 HO2 HA2
    obtain ⟨-, c7, -, -⟩ := HEB.out.cells HER.out
    refine hK.out _ _ trivial (fun hHeld => ?_)
    clear hK K
    try simp only [Act.put]
    try simp only [List.setIfInBounds_toArray]
    try simp only [List.set]
    refine wpAnyH_take (i := 6) (oi := { dst := some 74, op := Go.Op.binOp Go.BinOp.add 9 (Go.Operand.const (Go.Value.string { data := #[109, 97, 120, 45, 97, 103, 101, 61] })) (Go.Operand.tmp 73) 9, type := 9, pos := _, after := _, guard := _ }) (v := ?_) rfl (by kernel_rfl) (by kernel_rfl) (by kernel_rfl) (fun _ _ _ h => h) (Or.inl ⟨by rfl, ?_⟩) trivial ?_
    rotate_left
    · intro w hSw; go_simp; try with_reducible rfl
    try simp only [Act.put]
    try simp only [List.setIfInBounds_toArray]
    try simp only [List.set]
    refine wpAnyH_ready (rs := [7]) (by kernel_rfl) (by simp) ?_
    refine (AllReadyH.cons (o := { dst := some 75, op := Go.Op.call { callee := Go.Callee.value (Go.Operand.func 16), args := #[Go.Operand.const (Go.Value.string { data := #[99, 97, 99, 104, 101, 45, 99, 111, 110, 116, 114, 111, 108] }), Go.Operand.tmp 74], argTypes := #[9, 9] }, type := 32, pos := _, after := _, guard := _ }) rfl (fun K hK => ?_) AllReadyH.nil)
    go_simp
    go_at_call 16
    refine (of19_any _ _ _).mono ?_
    rintro e w17 ⟨rfl, r16⟩
    have HEB2 := Lib.hid (HEB.out.aft r16)
    have HO2 := Lib.hid (HO.out.aft r16)
    have HA2 := Lib.hid (HA.out.trans r16)
    clear r16 HEB HO HA c7
    have HEB := HEB2
    have HO := HO2
    have HA := HA2
    clear HEB2 HO2 HA2
    obtain ⟨-, c7, -, -⟩ := HEB.out.cells HER.out
    refine hK.out _ _ trivial (fun hHeld => ?_)
    clear hK K
    try simp only [Act.put]
    try simp only [List.setIfInBounds_toArray]
    try simp only [List.set]
    refine wpAnyH_ready (rs := [8]) (by kernel_rfl) (by simp) ?_
    refine (AllReadyH.cons (o := { dst := some 76, op := Go.Op.buildSlice 23 1 #[(0, Go.Operand.tmp 75)], type := 23, pos := _, after := _, guard := _ }) rfl (fun K hK => ?_) AllReadyH.nil)
    go_simp
    have r16 := (Aft.refl w17).alloc (.cells #[.string ⟨#[99, 97, 99, 104, 101, 45, 99, 111, 110, 116, 114, 111, 108]⟩, .string (⟨#[109, 97, 120, 45, 97, 103, 101, 61]⟩ ++ Xb)] 32)
    have HEB2 := Lib.hid (HEB.out.aft r16)
    have HO2 := Lib.hid (HO.out.aft r16)
    have HA2 := Lib.hid (HA.out.trans r16)
    clear r16 HEB HO HA c7
    have HEB := HEB2
    have HO := HO2
    have HA := HA2
    clear HEB2 HO2 HA2
    obtain ⟨-, c7, -, -⟩ := HEB.out.cells HER.out
    refine hK.out _ _ trivial (fun hHeld => ?_)
    clear hK K
    try simp only [Act.put]
    try simp only [List.setIfInBounds_toArray]
    try simp only [List.set]
    refine wpAnyH_ready (rs := [9]) (by kernel_rfl) (by simp) ?_
    refine (AllReadyH.cons (o := { dst := some 77, op := Go.Op.call { callee := Go.Callee.builtin Go.Builtin.append, args := #[Go.Operand.tmp 70, Go.Operand.tmp 76], argTypes := #[23, 23] }, type := 23, pos := _, after := _, guard := _ }) rfl (fun K hK => ?_) AllReadyH.nil)
    refine step_pushesF rfl (.tmp 70) (.tmp 76) rfl B _ _ [f1 D0.data.toList, f2 D1.data.toList] [f4 ((⟨#[109, 97, 120, 45, 97, 103, 101, 61]⟩ ++ Xb : ByteArray)).data.toList] rfl HO.out rfl (rbF_one19 ⟨#[99, 97, 99, 104, 101, 45, 99, 111, 110, 116, 114, 111, 108]⟩ (⟨#[109, 97, 120, 45, 97, 103, 101, 61]⟩ ++ Xb) w17) (by simp) (by rw [← HBB.out]; exact HA.out.to.size) ?_
    intro v18 w18 o18 g18
    have HA18 := Lib.hid (push_aft HA.out (by rw [HBB.out]; exact HO.out) g18)
    have HEB18 := Lib.hid (EB.grown HEB.out g18 (by show some g5 ≠ some gx; intro e; injection e with e; have := HLT.out; omega))
    obtain ⟨a18, k18, hv18, -⟩ := o18.slice
    have hv18' : v18 = .slice a18 3 k18 := hv18
    clear hv18
    subst hv18'
    have HO18 := Lib.hid o18
    clear o18 g18 HO HA HEB c7
    obtain ⟨c6, c7, c10, c11⟩ := HEB18.out.cells HER.out
    have fz : w18.frozen? ⟨gx, 7, none⟩ = false := frozen_of_row w18 gx 7 _ _ HEB18.out
    clear c6 c10 c11
    refine hK.out _ _ trivial (fun hHeld => ?_)
    clear hK K
    try simp only [Act.put]
    try simp only [List.setIfInBounds_toArray]
    try simp only [List.set]
    refine wpAnyH_take (i := 10) (oi := { dst := some 78, op := Go.Op.fieldAddr 29 (Go.Operand.tmp 8) 1, type := 0, pos := _, after := _, guard := _ }) (v := ?_) rfl (by kernel_rfl) (by kernel_rfl) (by kernel_rfl) (fun _ _ _ h => h) (Or.inl ⟨by rfl, ?_⟩) trivial ?_
    rotate_left
    · intro w hSw; go_simp; try with_reducible rfl
    try simp only [Act.put]
    try simp only [List.setIfInBounds_toArray]
    try simp only [List.set]
    refine wpAnyH_take (i := 11) (oi := { dst := some 79, op := Go.Op.fieldAddr 27 (Go.Operand.tmp 78) 1, type := 0, pos := _, after := _, guard := _ }) (v := ?_) rfl (by kernel_rfl) (by kernel_rfl) (by kernel_rfl) (fun _ _ _ h => h) (Or.inl ⟨by rfl, ?_⟩) trivial ?_
    rotate_left
    · intro w hSw; go_simp; try with_reducible rfl
    try simp only [Act.put]
    try simp only [List.setIfInBounds_toArray]
    try simp only [List.set]
    refine wpAnyH_ready (rs := [12]) (by kernel_rfl) (by simp) ?_
    refine (AllReadyH.cons (o := { dst := none, op := Go.Op.store 23 (Go.Operand.tmp 79) (Go.Operand.tmp 77), type := 0, pos := _, after := _, guard := _ }) rfl (fun K hK => ?_) AllReadyH.nil)
    go_simp
    have HO19 := Lib.hid (RbF.put19 HO18.out.rb ⟨gx, 7, none⟩ _ _ _ c7 (.slice a18 3 k18))
    clear c7 fz
    refine hK.out _ _ trivial (fun hHeld => ?_)
    clear hK K
    try simp only [Act.put]
    try simp only [List.setIfInBounds_toArray]
    try simp only [List.set]
    refine wpAnyH_done (by kernel_rfl) ?_ _
  rotate_left 1
  focus
    go_simp
    go_at_call 26
    refine (HGb.out _).mono ?_
    rintro e w16 ⟨rfl, r16⟩
    have HEB2 := Lib.hid (HEB.out.aft r16)
    have HO2 := Lib.hid (HO.out.aft r16)
    have HA2 := Lib.hid (HA.out.trans r16)
    clear r16 HEB HO HA c7
    have HEB := HEB2
    have HO := HO2
    have HA := HA2
    clear HEB2 HO2 HA2
    obtain ⟨-, c7, -, -⟩ := HEB.out.cells HER.out
    refine hK.out _ _ trivial (fun hHeld => ?_)
    clear hK K
    try simp only [Act.put]
    try simp only [List.setIfInBounds_toArray]
    try simp only [List.set]
    refine wpAnyH_take (i := 6) (oi := { dst := some 74, op := Go.Op.binOp Go.BinOp.add 9 (Go.Operand.const (Go.Value.string { data := #[109, 97, 120, 45, 97, 103, 101, 61] })) (Go.Operand.tmp 73) 9, type := 9, pos := _, after := _, guard := _ }) (v := ?_) rfl (by kernel_rfl) (by kernel_rfl) (by kernel_rfl) (fun _ _ _ h => h) (Or.inl ⟨by rfl, ?_⟩) trivial ?_
    rotate_left
    · intro w hSw; go_simp; try with_reducible rfl
    try simp only [Act.put]
    try simp only [List.setIfInBounds_toArray]
    try simp only [List.set]
    refine wpAnyH_ready (rs := [2, 7]) (by kernel_rfl) (by simp) ?_
    refine (AllReadyH.cons (o := { dst := some 70, op := Go.Op.load 23 (Go.Operand.tmp 69), type := 23, pos := _, after := _, guard := _ }) rfl (fun K hK => ?_) (AllReadyH.cons (o := { dst := some 75, op := Go.Op.call { callee := Go.Callee.value (Go.Operand.func 16), args := #[Go.Operand.const (Go.Value.string { data := #[99, 97, 99, 104, 101, 45, 99, 111, 110, 116, 114, 111, 108] }), Go.Operand.tmp 74], argTypes := #[9, 9] }, type := 32, pos := _, after := _, guard := _ }) rfl (fun K hK => ?_) AllReadyH.nil))
    focus
      go_simp
      skip
      refine hK.out _ _ trivial (fun hHeld => ?_)
      clear hK K
      try simp only [Act.put]
      try simp only [List.setIfInBounds_toArray]
      try simp only [List.set]
      refine wpAnyH_ready (rs := [7]) (by kernel_rfl) (by simp) ?_
      refine (AllReadyH.cons (o := { dst := some 75, op := Go.Op.call { callee := Go.Callee.value (Go.Operand.func 16), args := #[Go.Operand.const (Go.Value.string { data := #[99, 97, 99, 104, 101, 45, 99, 111, 110, 116, 114, 111, 108] }), Go.Operand.tmp 74], argTypes := #[9, 9] }, type := 32, pos := _, after := _, guard := _ }) rfl (fun K hK => ?_) AllReadyH.nil)
      go_simp
      go_at_call 16
      refine (of19_any _ _ _).mono ?_
      rintro e w17 ⟨rfl, r16⟩
      have HEB2 := Lib.hid (HEB.out.aft r16)
      have HO2 := Lib.hid (HO.out.aft r16)
      have HA2 := Lib.hid (HA.out.trans r16)
      clear r16 HEB HO HA c7
      have HEB := HEB2
      have HO := HO2
      have HA := HA2
      clear HEB2 HO2 HA2
      obtain ⟨-, c7, -, -⟩ := HEB.out.cells HER.out
      refine hK.out _ _ trivial (fun hHeld => ?_)
      clear hK K
      try simp only [Act.put]
      try simp only [List.setIfInBounds_toArray]
      try simp only [List.set]
      refine wpAnyH_ready (rs := [8]) (by kernel_rfl) (by simp) ?_
      refine (AllReadyH.cons (o := { dst := some 76, op := Go.Op.buildSlice 23 1 #[(0, Go.Operand.tmp 75)], type := 23, pos := _, after := _, guard := _ }) rfl (fun K hK => ?_) AllReadyH.nil)
      go_simp
      have r16 := (Aft.refl w17).alloc (.cells #[.string ⟨#[99, 97, 99, 104, 101, 45, 99, 111, 110, 116, 114, 111, 108]⟩, .string (⟨#[109, 97, 120, 45, 97, 103, 101, 61]⟩ ++ Xb)] 32)
      have HEB2 := Lib.hid (HEB.out.aft r16)
      have HO2 := Lib.hid (HO.out.aft r16)
      have HA2 := Lib.hid (HA.out.trans r16)
      clear r16 HEB HO HA c7
      have HEB := HEB2
      have HO := HO2
      have HA := HA2
      clear HEB2 HO2 HA2
      obtain ⟨-, c7, -, -⟩ := HEB.out.cells HER.out
      refine hK.out _ _ trivial (fun hHeld => ?_)
      clear hK K
      try simp only [Act.put]
      try simp only [List.setIfInBounds_toArray]
      try simp only [List.set]
      refine wpAnyH_ready (rs := [9]) (by kernel_rfl) (by simp) ?_
      refine (AllReadyH.cons (o := { dst := some 77, op := Go.Op.call { callee := Go.Callee.builtin Go.Builtin.append, args := #[Go.Operand.tmp 70, Go.Operand.tmp 76], argTypes := #[23, 23] }, type := 23, pos := _, after := _, guard := _ }) rfl (fun K hK => ?_) AllReadyH.nil)
      refine step_pushesF rfl (.tmp 70) (.tmp 76) rfl B _ _ [f1 D0.data.toList, f2 D1.data.toList] [f4 ((⟨#[109, 97, 120, 45, 97, 103, 101, 61]⟩ ++ Xb : ByteArray)).data.toList] rfl HO.out rfl (rbF_one19 ⟨#[99, 97, 99, 104, 101, 45, 99, 111, 110, 116, 114, 111, 108]⟩ (⟨#[109, 97, 120, 45, 97, 103, 101, 61]⟩ ++ Xb) w17) (by simp) (by rw [← HBB.out]; exact HA.out.to.size) ?_
      intro v18 w18 o18 g18
      have HA18 := Lib.hid (push_aft HA.out (by rw [HBB.out]; exact HO.out) g18)
      have HEB18 := Lib.hid (EB.grown HEB.out g18 (by show some g5 ≠ some gx; intro e; injection e with e; have := HLT.out; omega))
      obtain ⟨a18, k18, hv18, -⟩ := o18.slice
      have hv18' : v18 = .slice a18 3 k18 := hv18
      clear hv18
      subst hv18'
      have HO18 := Lib.hid o18
      clear o18 g18 HO HA HEB c7
      obtain ⟨c6, c7, c10, c11⟩ := HEB18.out.cells HER.out
      have fz : w18.frozen? ⟨gx, 7, none⟩ = false := frozen_of_row w18 gx 7 _ _ HEB18.out
      clear c6 c10 c11
      refine hK.out _ _ trivial (fun hHeld => ?_)
      clear hK K
      try simp only [Act.put]
      try simp only [List.setIfInBounds_toArray]
      try simp only [List.set]
      refine wpAnyH_take (i := 10) (oi := { dst := some 78, op := Go.Op.fieldAddr 29 (Go.Operand.tmp 8) 1, type := 0, pos := _, after := _, guard := _ }) (v := ?_) rfl (by kernel_rfl) (by kernel_rfl) (by kernel_rfl) (fun _ _ _ h => h) (Or.inl ⟨by rfl, ?_⟩) trivial ?_
      rotate_left
      · intro w hSw; go_simp; try with_reducible rfl
      try simp only [Act.put]
      try simp only [List.setIfInBounds_toArray]
      try simp only [List.set]
      refine wpAnyH_take (i := 11) (oi := { dst := some 79, op := Go.Op.fieldAddr 27 (Go.Operand.tmp 78) 1, type := 0, pos := _, after := _, guard := _ }) (v := ?_) rfl (by kernel_rfl) (by kernel_rfl) (by kernel_rfl) (fun _ _ _ h => h) (Or.inl ⟨by rfl, ?_⟩) trivial ?_
      rotate_left
      · intro w hSw; go_simp; try with_reducible rfl
      try simp only [Act.put]
      try simp only [List.setIfInBounds_toArray]
      try simp only [List.set]
      refine wpAnyH_ready (rs := [12]) (by kernel_rfl) (by simp) ?_
      refine (AllReadyH.cons (o := { dst := none, op := Go.Op.store 23 (Go.Operand.tmp 79) (Go.Operand.tmp 77), type := 0, pos := _, after := _, guard := _ }) rfl (fun K hK => ?_) AllReadyH.nil)
      go_simp
      have HO19 := Lib.hid (RbF.put19 HO18.out.rb ⟨gx, 7, none⟩ _ _ _ c7 (.slice a18 3 k18))
      clear c7 fz
      refine hK.out _ _ trivial (fun hHeld => ?_)
      clear hK K
      try simp only [Act.put]
      try simp only [List.setIfInBounds_toArray]
      try simp only [List.set]
      refine wpAnyH_done (by kernel_rfl) ?_ _
    rotate_left 1
    focus
      go_simp
      go_at_call 16
      refine (of19_any _ _ _).mono ?_
      rintro e w17 ⟨rfl, r16⟩
      have HEB2 := Lib.hid (HEB.out.aft r16)
      have HO2 := Lib.hid (HO.out.aft r16)
      have HA2 := Lib.hid (HA.out.trans r16)
      clear r16 HEB HO HA c7
      have HEB := HEB2
      have HO := HO2
      have HA := HA2
      clear HEB2 HO2 HA2
      obtain ⟨-, c7, -, -⟩ := HEB.out.cells HER.out
      refine hK.out _ _ trivial (fun hHeld => ?_)
      clear hK K
      try simp only [Act.put]
      try simp only [List.setIfInBounds_toArray]
      try simp only [List.set]
      refine wpAnyH_ready (rs := [2, 8]) (by kernel_rfl) (by simp) ?_
      refine (AllReadyH.cons (o := { dst := some 70, op := Go.Op.load 23 (Go.Operand.tmp 69), type := 23, pos := _, after := _, guard := _ }) rfl (fun K hK => ?_) (AllReadyH.cons (o := { dst := some 76, op := Go.Op.buildSlice 23 1 #[(0, Go.Operand.tmp 75)], type := 23, pos := _, after := _, guard := _ }) rfl (fun K hK => ?_) AllReadyH.nil))
      focus
        go_simp
        skip
        refine hK.out _ _ trivial (fun hHeld => ?_)
        clear hK K
        try simp only [Act.put]
        try simp only [List.setIfInBounds_toArray]
        try simp only [List.set]
        refine wpAnyH_ready (rs := [8]) (by kernel_rfl) (by simp) ?_
        refine (AllReadyH.cons (o := { dst := some 76, op := Go.Op.buildSlice 23 1 #[(0, Go.Operand.tmp 75)], type := 23, pos := _, after := _, guard := _ }) rfl (fun K hK => ?_) AllReadyH.nil)
        go_simp
        have r16 := (Aft.refl w17).alloc (.cells #[.string ⟨#[99, 97, 99, 104, 101, 45, 99, 111, 110, 116, 114, 111, 108]⟩, .string (⟨#[109, 97, 120, 45, 97, 103, 101, 61]⟩ ++ Xb)] 32)
        have HEB2 := Lib.hid (HEB.out.aft r16)
        have HO2 := Lib.hid (HO.out.aft r16)
        have HA2 := Lib.hid (HA.out.trans r16)
        clear r16 HEB HO HA c7
        have HEB := HEB2
        have HO := HO2
        have HA := HA2
        clear HEB2 HO2 HA2
        obtain ⟨-, c7, -, -⟩ := HEB.out.cells HER.out
        refine hK.out _ _ trivial (fun hHeld => ?_)
        clear hK K
        try simp only [Act.put]
        try simp only [List.setIfInBounds_toArray]
        try simp only [List.set]
        refine wpAnyH_ready (rs := [9]) (by kernel_rfl) (by simp) ?_
        refine (AllReadyH.cons (o := { dst := some 77, op := Go.Op.call { callee := Go.Callee.builtin Go.Builtin.append, args := #[Go.Operand.tmp 70, Go.Operand.tmp 76], argTypes := #[23, 23] }, type := 23, pos := _, after := _, guard := _ }) rfl (fun K hK => ?_) AllReadyH.nil)
        refine step_pushesF rfl (.tmp 70) (.tmp 76) rfl B _ _ [f1 D0.data.toList, f2 D1.data.toList] [f4 ((⟨#[109, 97, 120, 45, 97, 103, 101, 61]⟩ ++ Xb : ByteArray)).data.toList] rfl HO.out rfl (rbF_one19 ⟨#[99, 97, 99, 104, 101, 45, 99, 111, 110, 116, 114, 111, 108]⟩ (⟨#[109, 97, 120, 45, 97, 103, 101, 61]⟩ ++ Xb) w17) (by simp) (by rw [← HBB.out]; exact HA.out.to.size) ?_
        intro v18 w18 o18 g18
        have HA18 := Lib.hid (push_aft HA.out (by rw [HBB.out]; exact HO.out) g18)
        have HEB18 := Lib.hid (EB.grown HEB.out g18 (by show some g5 ≠ some gx; intro e; injection e with e; have := HLT.out; omega))
        obtain ⟨a18, k18, hv18, -⟩ := o18.slice
        have hv18' : v18 = .slice a18 3 k18 := hv18
        clear hv18
        subst hv18'
        have HO18 := Lib.hid o18
        clear o18 g18 HO HA HEB c7
        obtain ⟨c6, c7, c10, c11⟩ := HEB18.out.cells HER.out
        have fz : w18.frozen? ⟨gx, 7, none⟩ = false := frozen_of_row w18 gx 7 _ _ HEB18.out
        clear c6 c10 c11
        refine hK.out _ _ trivial (fun hHeld => ?_)
        clear hK K
        try simp only [Act.put]
        try simp only [List.setIfInBounds_toArray]
        try simp only [List.set]
        refine wpAnyH_take (i := 10) (oi := { dst := some 78, op := Go.Op.fieldAddr 29 (Go.Operand.tmp 8) 1, type := 0, pos := _, after := _, guard := _ }) (v := ?_) rfl (by kernel_rfl) (by kernel_rfl) (by kernel_rfl) (fun _ _ _ h => h) (Or.inl ⟨by rfl, ?_⟩) trivial ?_
        rotate_left
        · intro w hSw; go_simp; try with_reducible rfl
        try simp only [Act.put]
        try simp only [List.setIfInBounds_toArray]
        try simp only [List.set]
        refine wpAnyH_take (i := 11) (oi := { dst := some 79, op := Go.Op.fieldAddr 27 (Go.Operand.tmp 78) 1, type := 0, pos := _, after := _, guard := _ }) (v := ?_) rfl (by kernel_rfl) (by kernel_rfl) (by kernel_rfl) (fun _ _ _ h => h) (Or.inl ⟨by rfl, ?_⟩) trivial ?_
        rotate_left
        · intro w hSw; go_simp; try with_reducible rfl
        try simp only [Act.put]
        try simp only [List.setIfInBounds_toArray]
        try simp only [List.set]
        refine wpAnyH_ready (rs := [12]) (by kernel_rfl) (by simp) ?_
        refine (AllReadyH.cons (o := { dst := none, op := Go.Op.store 23 (Go.Operand.tmp 79) (Go.Operand.tmp 77), type := 0, pos := _, after := _, guard := _ }) rfl (fun K hK => ?_) AllReadyH.nil)
        go_simp
        have HO19 := Lib.hid (RbF.put19 HO18.out.rb ⟨gx, 7, none⟩ _ _ _ c7 (.slice a18 3 k18))
        clear c7 fz
        refine hK.out _ _ trivial (fun hHeld => ?_)
        clear hK K
        try simp only [Act.put]
        try simp only [List.setIfInBounds_toArray]
        try simp only [List.set]
        refine wpAnyH_done (by kernel_rfl) ?_ _
      rotate_left 1
      focus
        go_simp
        have r16 := (Aft.refl w17).alloc (.cells #[.string ⟨#[99, 97, 99, 104, 101, 45, 99, 111, 110, 116, 114, 111, 108]⟩, .string (⟨#[109, 97, 120, 45, 97, 103, 101, 61]⟩ ++ Xb)] 32)
        have HEB2 := Lib.hid (HEB.out.aft r16)
        have HO2 := Lib.hid (HO.out.aft r16)
        have HA2 := Lib.hid (HA.out.trans r16)
        clear r16 HEB HO HA c7
        have HEB := HEB2
        have HO := HO2
        have HA := HA2
        clear HEB2 HO2 HA2
        obtain ⟨-, c7, -, -⟩ := HEB.out.cells HER.out
        refine hK.out _ _ trivial (fun hHeld => ?_)
        clear hK K
        try simp only [Act.put]
        try simp only [List.setIfInBounds_toArray]
        try simp only [List.set]
        refine wpAnyH_ready (rs := [2]) (by kernel_rfl) (by simp) ?_
        refine (AllReadyH.cons (o := { dst := some 70, op := Go.Op.load 23 (Go.Operand.tmp 69), type := 23, pos := _, after := _, guard := _ }) rfl (fun K hK => ?_) AllReadyH.nil)
        go_simp
        skip
        refine hK.out _ _ trivial (fun hHeld => ?_)
        clear hK K
        try simp only [Act.put]
        try simp only [List.setIfInBounds_toArray]
        try simp only [List.set]
        refine wpAnyH_ready (rs := [9]) (by kernel_rfl) (by simp) ?_
        refine (AllReadyH.cons (o := { dst := some 77, op := Go.Op.call { callee := Go.Callee.builtin Go.Builtin.append, args := #[Go.Operand.tmp 70, Go.Operand.tmp 76], argTypes := #[23, 23] }, type := 23, pos := _, after := _, guard := _ }) rfl (fun K hK => ?_) AllReadyH.nil)
        refine step_pushesF rfl (.tmp 70) (.tmp 76) rfl B _ _ [f1 D0.data.toList, f2 D1.data.toList] [f4 ((⟨#[109, 97, 120, 45, 97, 103, 101, 61]⟩ ++ Xb : ByteArray)).data.toList] rfl HO.out rfl (rbF_one19 ⟨#[99, 97, 99, 104, 101, 45, 99, 111, 110, 116, 114, 111, 108]⟩ (⟨#[109, 97, 120, 45, 97, 103, 101, 61]⟩ ++ Xb) w17) (by simp) (by rw [← HBB.out]; exact HA.out.to.size) ?_
        intro v18 w18 o18 g18
        have HA18 := Lib.hid (push_aft HA.out (by rw [HBB.out]; exact HO.out) g18)
        have HEB18 := Lib.hid (EB.grown HEB.out g18 (by show some g5 ≠ some gx; intro e; injection e with e; have := HLT.out; omega))
        obtain ⟨a18, k18, hv18, -⟩ := o18.slice
        have hv18' : v18 = .slice a18 3 k18 := hv18
        clear hv18
        subst hv18'
        have HO18 := Lib.hid o18
        clear o18 g18 HO HA HEB c7
        obtain ⟨c6, c7, c10, c11⟩ := HEB18.out.cells HER.out
        have fz : w18.frozen? ⟨gx, 7, none⟩ = false := frozen_of_row w18 gx 7 _ _ HEB18.out
        clear c6 c10 c11
        refine hK.out _ _ trivial (fun hHeld => ?_)
        clear hK K
        try simp only [Act.put]
        try simp only [List.setIfInBounds_toArray]
        try simp only [List.set]
        refine wpAnyH_take (i := 10) (oi := { dst := some 78, op := Go.Op.fieldAddr 29 (Go.Operand.tmp 8) 1, type := 0, pos := _, after := _, guard := _ }) (v := ?_) rfl (by kernel_rfl) (by kernel_rfl) (by kernel_rfl) (fun _ _ _ h => h) (Or.inl ⟨by rfl, ?_⟩) trivial ?_
        rotate_left
        · intro w hSw; go_simp; try with_reducible rfl
        try simp only [Act.put]
        try simp only [List.setIfInBounds_toArray]
        try simp only [List.set]
        refine wpAnyH_take (i := 11) (oi := { dst := some 79, op := Go.Op.fieldAddr 27 (Go.Operand.tmp 78) 1, type := 0, pos := _, after := _, guard := _ }) (v := ?_) rfl (by kernel_rfl) (by kernel_rfl) (by kernel_rfl) (fun _ _ _ h => h) (Or.inl ⟨by rfl, ?_⟩) trivial ?_
        rotate_left
        · intro w hSw; go_simp; try with_reducible rfl
        try simp only [Act.put]
        try simp only [List.setIfInBounds_toArray]
        try simp only [List.set]
        refine wpAnyH_ready (rs := [12]) (by kernel_rfl) (by simp) ?_
        refine (AllReadyH.cons (o := { dst := none, op := Go.Op.store 23 (Go.Operand.tmp 79) (Go.Operand.tmp 77), type := 0, pos := _, after := _, guard := _ }) rfl (fun K hK => ?_) AllReadyH.nil)
        go_simp
        have HO19 := Lib.hid (RbF.put19 HO18.out.rb ⟨gx, 7, none⟩ _ _ _ c7 (.slice a18 3 k18))
        clear c7 fz
        refine hK.out _ _ trivial (fun hHeld => ?_)
        clear hK K
        try simp only [Act.put]
        try simp only [List.setIfInBounds_toArray]
        try simp only [List.set]
        refine wpAnyH_done (by kernel_rfl) ?_ _
      rotate_left 1
    rotate_left 2
  rotate_left 3
  all_goals
    have HEB19 := Lib.hid (HEB18.out.put7 (.slice a18 3 k18))
    have HA19 : Hid (Aft w (w18.setCell ⟨gx, 7, none⟩ (.slice a18 3 k18))) := Lib.hid (bset HA18.out.to gx 7 _ (by rw [HBB.out]; exact HBG.out))
    generalize w18.setCell ⟨gx, 7, none⟩ (.slice a18 3 k18) = W19 at HEB19 HA19 HO19 ⊢
    clear HEB18 HA18 HO18 hcat gwb
    have HL2 : Hid (lifeF 200 ([f1 D0.data.toList, f2 D1.data.toList] ++ [f4 (⟨#[109, 97, 120, 45, 97, 103, 101, 61]⟩ ++ Xb : ByteArray).data.toList]) 0 x = (b : Int)) := Lib.hid (life_ma HB.out (by rw [← HV.out]; exact v3b _ _ _) 0 x)
    have HF2 : Hid (FOk ([f1 D0.data.toList, f2 D1.data.toList] ++ [f4 (⟨#[109, 97, 120, 45, 97, 103, 101, 61]⟩ ++ Xb : ByteArray).data.toList])) := Lib.hid (by
      have hz := HZ.out
      have hl : (⟨#[109, 97, 120, 45, 97, 103, 101, 61]⟩ ++ Xb : ByteArray).data.toList.length ≤ 2000 := by
        rw [HV.out, List.length_append, List.length_cons]
        have := decD_len 4 b (by have := HB.out; omega)
        have e7 : nMaxAge.length = 7 := rfl
        omega
      refine fok_small (by simp) (fun f hf => ?_)
      simp only [List.mem_cons, List.not_mem_nil, or_false, List.cons_append, List.nil_append] at hf
      rcases hf with rfl | rfl | rfl
      · simp [f1, hz.1]
      · simp [f2, hz.2]
      · exact hl)
    have HIN2 := Lib.hid (entR_ok (.slice a18 3 k18) 0 0).info
    clear HV HX
    go_wp2_with (refine wpList_load_row_w rfl 29 (.tmp 8) rfl gx rfl _ (entR (.slice a18 3 k18) 0 0) (0, 0) _ HEB19.out Try.underlying29 rfl HIN2.out ?_)
    refine (life_of _ 0 0 _ x _ (b : Int) HO19.out HF2.out HL2.out).mono ?_
    rintro e w20 ⟨rfl, r20⟩
    have HA20 := Lib.hid (HA19.out.trans r20)
    clear r20
    go_wp2_with fail
    refine (freshruns_any _).mono ?_
    rintro e w21 ⟨rfl, r21⟩
    have HA21 := Lib.hid (HA20.out.trans r21)
    clear r21
    go_wp2_with fail
    go_ret
    exact ⟨rfl, HA21.out⟩

theorem walkFreshShares (w : World) (hsh : w.ShapedOpen Try.prog) (a0 : Int) (w0 : (Lit.int .u16 a0).wf = true) (a1 : Int) (w1 : (Lit.int .u16 a1).wf = true) (a4 : Nat) (w4 : (Lit.float .f64 a4).wf = true) :
    Calls Try.prog 7 #[.int .u16 a0, .int .u16 a1, .float .f64 a4] w fun e w' => e = .returned (.bool true) ∧ Aft w w' := by
  obtain ⟨n0, rfl, h0⟩ := wf_u16 w0
  obtain ⟨n1, rfl, h1⟩ := wf_u16 w1
  exact freshshares_any n0 n1 a4 h0 h1 w

end Go.Proofs.Ytimpnknmhbpffaa
