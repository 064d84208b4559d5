/-
  TableRuns.
-/
import Derived.Test.YtmlnboibclfmcaaDoorTbl4
namespace Go.Proofs.YtmlnboibclfmcaaDoor
open Go.RowKit
set_option linter.unusedVariables false

theorem Aft.chg {p : Nat → Prop} {w a b : World} (h : Aft w a) (hc : Chg p a b) (hp : ∀ k, p k → w.heap.size ≤ k) : Aft w b :=
  ⟨hc.os.trans h.os, hc.tape.trans h.tape, hc.output.trans h.output, Nat.le_trans h.size hc.size, fun k hk => by
    rw [hc.block k (Nat.lt_of_lt_of_le hk h.size) (fun hpk => by have := hp k hpk; omega)]
    exact h.block k hk⟩
theorem Tab.tp {w : World} {B g : Nat} {vo vk : Value} {l : List FieldL} {most : Int} (h : Tab w B g vo vk l most) {n : Nat} (hn : n ≤ B) : ∀ k, TP g vo k → n ≤ k := fun k hk => by
  rcases hk with rfl | hk
  · exact Nat.le_trans hn h.gB
  · exact Nat.le_trans hn (h.own.lt k hk).1
theorem of6_any (n v : ByteArray) (w : World) : Calls Tryd.prog 20 #[.string n, .string v] w fun e w' => e = .returned (.agg #[.string n, .string v]) ∧ Aft w w' := by
  have hset := heap_alloc_new w (.cells #[.string n, .string v] 28)
  have hsz : (Tryd.prog.info? 28).map (·.size) = some (#[Value.string n, Value.string v]).size := by kernel_rfl
  have HS := Lib.hid hset
  have HZ := Lib.hid hsz
  clear hset hsz
  go_enter Tryd.func20, Tryd.ntmps20
  go_wp2_with fail
  refine bodyPost_ret (results_cell_row rfl _ _ w.heap.size 28 #[.string n, .string v] (0, 0) _ rfl HS.out Tryd.underlying28 rfl HZ.out) rfl ?_
  exact ⟨rfl, (Aft.refl w).alloc _⟩
/-- Add, the list behind it named; the world as this text needs it. -/
theorem add_to {w0 w : World} {B g : Nat} {vo vk : Value} {l : List FieldL} {most : Int} (f : FieldL) (l' : List FieldL) (h : Tab w B g vo vk l most) (hs : (sumF l : Int) ≤ most) (hm0 : 0 ≤ most) (hm1 : most ≤ 65536) (hf : fsize f ≤ 1000000000000) (hB : B ≤ w.heap.size) (hl : addF most f l = l') (ha : Aft w0 w) (hw : w0.heap.size ≤ B) :
    Calls Tryd.prog 19 #[.pointer (some ⟨g, 0, none⟩), fieldV f] w fun e w' => e = .returned (.tuple #[]) ∧ ∃ vo', Tab w' B g vo' vk l' most ∧ Aft w0 w' ∧ Chg (TP g vo) w w' ∧ ∀ k, TP g vo' k → TP g vo k ∨ w.heap.size ≤ k := by
  refine (add_any f h hs hm0 hm1 hf hB).mono ?_
  rintro e w' ⟨rfl, vo', ht, hc, hn⟩
  rw [hl] at ht
  exact ⟨rfl, vo', ht, ha.chg hc (h.tp hw), hc, fun k hk => hk.elim (fun e => Or.inl (Or.inl e)) (fun e => (hn k e).imp Or.inr id)⟩
theorem resize_to {w0 w : World} {B g : Nat} {vo vk : Value} {l : List FieldL} {most : Int} (m : Int) (l' : List FieldL) (h : Tab w B g vo vk l most) (hs : sumF l ≤ 1000000000000) (hm0 : 0 ≤ m) (hm1 : m ≤ 65536) (hB : B ≤ w.heap.size) (hl : fitF m l = l') (ha : Aft w0 w) (hw : w0.heap.size ≤ B) :
    Calls Tryd.prog 24 #[.pointer (some ⟨g, 0, none⟩), .int .i64 m] w fun e w' => e = .returned (.int .i64 0) ∧ ∃ vo', Tab w' B g vo' vk l' m ∧ Aft w0 w' ∧ Chg (TP g vo) w w' ∧ ∀ k, TP g vo' k → TP g vo k ∨ w.heap.size ≤ k := by
  refine (resize_yes m h hs hm0 hm1).mono ?_
  rintro e w' ⟨rfl, vo', ht, hc, hn⟩
  rw [hl] at ht
  exact ⟨rfl, vo', ht, ha.chg hc (fun k hk => h.tp hw k (Or.inl hk)), hc.mono (fun k hk => Or.inl hk), fun k hk => hk.elim (fun e => Or.inl (Or.inl e)) (fun e => Or.inl (Or.inr (hn k e)))⟩
theorem size_is {w : World} {B g : Nat} {vo vk : Value} {l : List FieldL} {most : Int} (n : Int) (h : Tab w B g vo vk l most) (hn : (sumF l : Int) = n) : Calls Tryd.prog 22 #[.pointer (some ⟨g, 0, none⟩)] w fun e w' => e = .returned (.int .i64 n) ∧ w = w' := by
  subst hn; exact tsize_any h
theorem len_is {w : World} {B g : Nat} {vo vk : Value} {l : List FieldL} {most : Int} (n : Int) (h : Tab w B g vo vk l most) (hn : (l.length : Int) = n) : Calls Tryd.prog 23 #[.pointer (some ⟨g, 0, none⟩)] w fun e w' => e = .returned (.int .i64 n) ∧ w = w' := by
  subst hn; exact tlen_any h
theorem get_is {w : World} {B g : Nat} {vo vk : Value} {l : List FieldL} {most : Int} (i : Int) (v : Value) (b : Bool) (i0 : -9223372036854775808 ≤ i) (i1 : i ≤ 9223372036854775807) (h : Tab w B g vo vk l most) (hv : fieldV (getF l i) = v) (hb : getB l i = b) :
    Calls Tryd.prog 21 #[.pointer (some ⟨g, 0, none⟩), .int .i64 i] w fun e w' => e = .returned (.tuple #[v, .bool b]) ∧ Aft w w' := by
  subst hv hb
  exact tget_any i i0 i1 h
theorem finds_is {w : World} {B g : Nat} {vo vk : Value} {l : List FieldL} {most : Int} (f : FieldL) (k : Int) (b : Bool) (h : Tab w B g vo vk l most) (hl : l.length ≤ 1000000) (hf : findF l f = (k, b)) (n v : ByteArray) (hn : fieldV f = .agg #[.string n, .string v]) :
    Calls Tryd.prog 25 #[.pointer (some ⟨g, 0, none⟩), .agg #[.string n, .string v], .int .i64 k, .bool b] w fun e w' => e = .returned (.bool true) ∧ Aft w w' := by
  have hA1 : Aft w (w.alloc (.cells #[.string n, .string v] 28)) := (Aft.refl w).alloc _
  have HF := Lib.hid (tfind_any f (h.aft hA1) hl)
  rw [hf, hn] at HF
  have HA1 := Lib.hid hA1
  clear h hl hf hn hA1
  go_enter Tryd.func25, Tryd.ntmps25
  go_wp2_with fail
  refine HF.out.mono ?_
  rintro e w1 ⟨rfl, a1⟩
  have HA2 := Lib.hid (HA1.out.trans a1)
  clear a1
  cases b
  all_goals
    go_wp2_with fail
    go_ret
    exact ⟨rfl, HA2.out⟩

def fA : FieldL := ([97], [49])
def fB : FieldL := ([98], [50])
def fC : FieldL := ([99], [51])
def fD : FieldL := ([99, 99, 99], [])
theorem run1 : addF 70 fA [] = [fA] := by
  unfold addF; rw [if_pos (by decide), fitF_stop (Or.inl rfl)]
theorem run2 : addF 70 fB [fA] = [fB, fA] := by
  unfold addF; rw [if_pos (by decide), fitF_stop (Or.inr (by decide))]
theorem run3 : addF 70 fC [fB, fA] = [fC, fB] := by
  unfold addF; rw [if_pos (by decide), fitF_go (by decide), fitF_stop (Or.inr (by decide))]; rfl
theorem run4 : addF 70 fD [fC, fB] = [fD, fC] := by
  unfold addF; rw [if_pos (by decide), fitF_go (by decide), fitF_stop (Or.inr (by decide))]; rfl
theorem run5 : fitF 33 [fD, fC] = [] := by
  have e1 : [fD, fC].dropLast = [fD] := rfl
  have e2 : [fD].dropLast = [] := rfl
  rw [fitF_go (by decide), e1, fitF_go (by decide), e2, fitF_stop (Or.inl rfl)]

structure RH (B g : Nat) (vo vk : Value) (gx gy : Nat) (w : World) : Prop where
  t : Tab w B g vo vk [] 33
  x : FB w gx [fB]
  y : FB w gy [fA]
theorem RH.aft {B g : Nat} {vo vk : Value} {gx gy : Nat} {w w' : World} (h : RH B g vo vk gx gy w) (ha : Aft w w') : RH B g vo vk gx gy w' :=
  ⟨h.t.aft ha, (Below.block ha.to gx h.x.lt).trans h.x, (Below.block ha.to gy h.y.lt).trans h.y⟩
theorem fb_cells {w : World} {g : Nat} {f : FieldL} (h : FB w g [f]) : w.cell? ⟨g, 0, none⟩ = some (strV f.1) ∧ w.cell? ⟨g, 1, none⟩ = some (strV f.2) := by
  have := h.cell (i := 0) (by simp)
  simpa using this
theorem FB.aft {w w' : World} {g : Nat} {l : List FieldL} (h : FB w g l) (ha : Aft w w') : FB w' g l := (Below.block ha.to g h.lt).trans h
theorem FB.chg {p : Nat → Prop} {w w' : World} {g : Nat} {l : List FieldL} (h : FB w g l) (hc : Chg p w w') (hp : ¬ p g) : FB w' g l := (hc.block g h.lt hp).trans h

structure XY (g : Nat) (vo : Value) (gx gy : Nat) (w : World) : Prop where
  x : FB w gx [fB]
  y : FB w gy [fA]
  nx : ¬ TP g vo gx
  ny : ¬ TP g vo gy
theorem XY.aft {g : Nat} {vo : Value} {gx gy : Nat} {w w' : World} (h : XY g vo gx gy w) (ha : Aft w w') : XY g vo gx gy w' := ⟨h.x.aft ha, h.y.aft ha, h.nx, h.ny⟩
theorem XY.step {g : Nat} {vo vo' : Value} {gx gy : Nat} {w w' : World} (h : XY g vo gx gy w) (hc : Chg (TP g vo) w w') (ht : ∀ k, TP g vo' k → TP g vo k ∨ w.heap.size ≤ k) : XY g vo' gx gy w' :=
  ⟨h.x.chg hc h.nx, h.y.chg hc h.ny, fun e => by
    rcases ht gx e with h1 | h1
    · exact h.nx h1
    · have := h.x.lt; omega, fun e => by
    rcases ht gy e with h1 | h1
    · exact h.ny h1
    · have := h.y.lt; omega⟩
theorem Tab.new_tp {w : World} {B g : Nat} {vo vk : Value} {l : List FieldL} {most : Int} (h : Tab w B g vo vk l most) {k : Nat} (hk : w.heap.size ≤ k) : ¬ TP g vo k := fun e => by
  rcases e with e | e
  · have := h.lt; omega
  · have := (h.own.lt k e).2; omega

set_option maxHeartbeats 16000000 in
set_option maxRecDepth 100000 in
theorem tblruns_any (w : World) (hm : MaxOk w) : Calls Tryd.prog 3 #[] w fun e w' => e = .returned (.bool true) ∧ Aft w w' := by
  have HN := Lib.hid (tnew_yes 70 (by decide) (by decide) w hm)
  clear hm
  go_enter Tryd.func3, Tryd.ntmps3
  go_wp2_with fail
  refine HN.out.mono ?_
  rintro e w1 ⟨g, vk, rfl, t1, a1⟩
  have T1 := Lib.hid t1
  have A1 := Lib.hid a1
  clear t1 a1
  go_wp2_with fail
  refine (of6_any _ _ _).mono ?_
  rintro e u2 ⟨rfl, b2⟩
  have TU2 := Lib.hid (T1.out.aft b2)
  have AU2 := Lib.hid (A1.out.trans b2)
  clear b2
  go_wp2_with fail
  refine (add_to (w0 := w) fA [fA] TU2.out (by decide) (by decide) (by decide) (by decide) AU2.out.size run1 AU2.out (Nat.le_refl _)).mono ?_
  rintro e w2 ⟨rfl, vo2, t2, a2, c2, p2⟩
  have T2 := Lib.hid t2
  have A2 := Lib.hid a2
  clear t2 a2 c2 p2
  go_wp2_with fail
  refine (of6_any _ _ _).mono ?_
  rintro e u3 ⟨rfl, b3⟩
  have TU3 := Lib.hid (T2.out.aft b3)
  have AU3 := Lib.hid (A2.out.trans b3)
  clear b3
  go_wp2_with fail
  refine (add_to (w0 := w) fB [fB, fA] TU3.out (by decide) (by decide) (by decide) (by decide) AU3.out.size run2 AU3.out (Nat.le_refl _)).mono ?_
  rintro e w3 ⟨rfl, vo3, t3, a3, c3, p3⟩
  have T3 := Lib.hid t3
  have A3 := Lib.hid a3
  clear t3 a3 c3 p3
  go_wp2_with fail
  refine (get_is 62 (.agg #[.string ⟨#[98]⟩, .string ⟨#[50]⟩]) true (by decide) (by decide) T3.out (by kernel_rfl) (by kernel_rfl)).mono ?_
  rintro e w4 ⟨rfl, a4⟩
  have X4 : Hid (FB (w4.alloc (.cells #[.string ⟨#[98]⟩, .string ⟨#[50]⟩] 28)) w4.heap.size [fB]) := Lib.hid (heap_alloc_new w4 _)
  have T4 := Lib.hid ((T3.out.aft a4).aft ((Aft.refl w4).alloc (.cells #[.string ⟨#[98]⟩, .string ⟨#[50]⟩] 28)))
  have A4 := Lib.hid ((A3.out.trans a4).alloc (.cells #[.string ⟨#[98]⟩, .string ⟨#[50]⟩] 28))
  have NX4 := Lib.hid (T3.out.new_tp a4.size)
  clear a4
  go_upto_region 7 with fail
  generalize w4.heap.size = gx at X4 NX4 ⊢
  generalize w4.alloc (.cells #[.string ⟨#[98]⟩, .string ⟨#[50]⟩] 28) = W4 at X4 T4 A4 ⊢
  go_wp2_with fail
  refine (get_is 63 (.agg #[.string ⟨#[97]⟩, .string ⟨#[49]⟩]) true (by decide) (by decide) T4.out (by kernel_rfl) (by kernel_rfl)).mono ?_
  rintro e w5 ⟨rfl, a5⟩
  have X5 : Hid (FB (w5.alloc (.cells #[.string ⟨#[97]⟩, .string ⟨#[49]⟩] 28)) w5.heap.size [fA]) := Lib.hid (heap_alloc_new w5 _)
  have NX5 := Lib.hid (T4.out.new_tp a5.size)
  have XY5 := Lib.hid (XY.mk ((X4.out.aft a5).aft ((Aft.refl w5).alloc (.cells #[.string ⟨#[97]⟩, .string ⟨#[49]⟩] 28))) X5.out NX4.out NX5.out)
  have T5 := Lib.hid ((T4.out.aft a5).aft ((Aft.refl w5).alloc (.cells #[.string ⟨#[97]⟩, .string ⟨#[49]⟩] 28)))
  have A5 := Lib.hid ((A4.out.trans a5).alloc (.cells #[.string ⟨#[97]⟩, .string ⟨#[49]⟩] 28))
  clear a5 X4 X5 NX4 NX5
  go_upto_region 8 with fail
  generalize w5.heap.size = gy at XY5 ⊢
  generalize w5.alloc (.cells #[.string ⟨#[97]⟩, .string ⟨#[49]⟩] 28) = W5 at XY5 T5 A5 ⊢
  go_wp2_with fail
  refine (size_is 68 T5.out (by decide)).mono ?_
  rintro e w6 ⟨rfl, rfl⟩
  go_wp2_with fail
  refine (of6_any _ _ _).mono ?_
  rintro e u6 ⟨rfl, xb6⟩
  have TU6 := Lib.hid (T5.out.aft xb6)
  have AU6 := Lib.hid (A5.out.trans xb6)
  go_wp2_with fail
  refine (add_to (w0 := w) fC [fC, fB] TU6.out (by decide) (by decide) (by decide) (by decide) AU6.out.size run3 AU6.out (Nat.le_refl _)).mono ?_
  rintro e w6 ⟨rfl, vo6, t6, a6, c6, p6⟩
  have T6 := Lib.hid t6
  have A6 := Lib.hid a6
  have XY6 := Lib.hid ((XY5.out.aft xb6).step c6 p6)
  clear t6 a6 c6 p6
  go_wp2_with fail
  refine (len_is 2 T6.out (by decide)).mono ?_
  rintro e w7 ⟨rfl, rfl⟩
  go_wp2_with fail
  refine (of6_any _ _ _).mono ?_
  rintro e u7 ⟨rfl, xb7⟩
  have TU7 := Lib.hid (T6.out.aft xb7)
  have AU7 := Lib.hid (A6.out.trans xb7)
  go_wp2_with fail
  refine (add_to (w0 := w) fD [fD, fC] TU7.out (by decide) (by decide) (by decide) (by decide) AU7.out.size run4 AU7.out (Nat.le_refl _)).mono ?_
  rintro e w7 ⟨rfl, vo7, t7, a7, c7, p7⟩
  have T7 := Lib.hid t7
  have A7 := Lib.hid a7
  have XY7 := Lib.hid ((XY6.out.aft xb7).step c7 p7)
  clear t7 a7 c7 p7
  go_wp2_with fail
  refine (len_is 2 T7.out (by decide)).mono ?_
  rintro e w8 ⟨rfl, rfl⟩
  go_wp2_with fail
  refine (resize_to (w0 := w) 33 [] T7.out (by decide) (by decide) (by decide) A7.out.size run5 A7.out (Nat.le_refl _)).mono ?_
  rintro e w9 ⟨rfl, vo9, t9, a9, c9, p9⟩
  have RH9 : RH w.heap.size g vo9 vk gx gy w9 := ⟨t9, (XY7.out.step c9 p9).x, (XY7.out.step c9 p9).y⟩
  have A5' := a9
  clear t9 a9 c9 p9 T7 A7 XY7 T6 A6 XY6 T5 A5 XY5 T4 A4
  go_upto_region 14 with fail
  have hH := RH9
  clear RH9
  have A9 : Aft w w9.drew := A5'.drew
  clear A5'
  refine wp_region_held_drew (S := RH w.heap.size g vo9 vk gx gy) (by kernel_rfl) (hH.aft ((Aft.refl _).drew)) (fun hHeld => ?_)
  refine wpAnyH_take (i := 0) (oi := { dst := some 51, op := Go.Op.load 28 (Go.Operand.tmp 3), type := 28, pos := _, after := _, guard := _ }) (v := ?_) rfl (by kernel_rfl) (by kernel_rfl) (by kernel_rfl) (fun _ _ _ h => h) (Or.inl ⟨by rfl, ?_⟩) (by exact hHeld) ?_
  rotate_left
  · intro w hSw; obtain ⟨zx0, zx1⟩ := fb_cells hSw.x; obtain ⟨zy0, zy1⟩ := fb_cells hSw.y; unfold strV fA fB at *; simp only at zx0 zx1 zy0 zy1; go_simp; try with_reducible rfl
  try simp only [Act.put]
  try simp only [List.setIfInBounds_toArray]
  try simp only [List.set]
  refine wpAnyH_ready (rs := [1]) (by kernel_rfl) (by simp) ?_
  refine AllReadyH.cons (o := { dst := some 52, op := Go.Op.call { callee := Go.Callee.value (Go.Operand.func 20), args := #[Go.Operand.const (Go.Value.string { data := #[98] }), Go.Operand.const (Go.Value.string { data := #[50] })], argTypes := #[9, 9] }, type := 28, pos := _, after := _, guard := _ }) rfl (fun K hK => ?_) AllReadyH.nil
  go_simp
  go_at_call 20
  refine (of6_any _ _ _).mono ?_
  rintro e w10 ⟨rfl, a6⟩
  have hS2 := RH.aft hHeld a6
  have A10 := Aft.trans A9 a6
  clear A9
  have A9 := A10
  clear A10 a6
  clear hHeld
  refine hK.out _ _ hS2 (fun hHeld => ?_)
  clear hK K hS2
  try simp only [Act.put]
  try simp only [List.setIfInBounds_toArray]
  try simp only [List.set]
  refine wpAnyH_take (i := 2) (oi := { dst := some 53, op := Go.Op.binOp Go.BinOp.eql 28 (Go.Operand.tmp 51) (Go.Operand.tmp 52) 28, type := 4, pos := _, after := _, guard := _ }) (v := ?_) rfl (by kernel_rfl) (by kernel_rfl) (by kernel_rfl) (fun _ _ _ h => h) (Or.inl ⟨by rfl, ?_⟩) (by exact hHeld) ?_
  rotate_left
  · intro w hSw; go_simp; try with_reducible rfl
  try simp only [Act.put]
  try simp only [List.setIfInBounds_toArray]
  try simp only [List.set]
  refine wpAnyH_take (i := 3) (oi := { dst := some 54, op := Go.Op.move (Go.Operand.tmp 53), type := 4, pos := _, after := _, guard := _ }) (v := ?_) rfl (by kernel_rfl) (by kernel_rfl) (by kernel_rfl) (fun _ _ _ h => h) (Or.inl ⟨by rfl, ?_⟩) (by exact hHeld) ?_
  rotate_left
  · intro w hSw; go_simp; try with_reducible rfl
  try simp only [Act.put]
  try simp only [List.setIfInBounds_toArray]
  try simp only [List.set]
  refine wpAnyH_take (i := 4) (oi := { dst := some 55, op := Go.Op.move (Go.Operand.tmp 4), type := 4, pos := _, after := _, guard := _ }) (v := ?_) rfl (by kernel_rfl) (by kernel_rfl) (by kernel_rfl) (fun _ _ _ h => h) (Or.inl ⟨by rfl, ?_⟩) (by exact hHeld) ?_
  rotate_left
  · intro w hSw; go_simp; try with_reducible rfl
  try simp only [Act.put]
  try simp only [List.setIfInBounds_toArray]
  try simp only [List.set]
  refine wpAnyH_take (i := 5) (oi := { dst := some 56, op := Go.Op.pick (Go.Operand.tmp 54) (Go.Operand.tmp 55) (Go.Operand.const (Go.Value.bool false)), type := 4, pos := _, after := _, guard := _ }) (v := ?_) rfl (by kernel_rfl) (by kernel_rfl) (by kernel_rfl) (fun _ _ _ h => h) (Or.inl ⟨by rfl, ?_⟩) (by exact hHeld) ?_
  rotate_left
  · intro w hSw; go_simp; try with_reducible rfl
  try simp only [Act.put]
  try simp only [List.setIfInBounds_toArray]
  try simp only [List.set]
  refine wpAnyH_take (i := 6) (oi := { dst := some 57, op := Go.Op.move (Go.Operand.tmp 56), type := 4, pos := _, after := _, guard := _ }) (v := ?_) rfl (by kernel_rfl) (by kernel_rfl) (by kernel_rfl) (fun _ _ _ h => h) (Or.inl ⟨by rfl, ?_⟩) (by exact hHeld) ?_
  rotate_left
  · intro w hSw; go_simp; try with_reducible rfl
  try simp only [Act.put]
  try simp only [List.setIfInBounds_toArray]
  try simp only [List.set]
  refine wpAnyH_take (i := 7) (oi := { dst := some 58, op := Go.Op.load 28 (Go.Operand.tmp 5), type := 28, pos := _, after := _, guard := _ }) (v := ?_) rfl (by kernel_rfl) (by kernel_rfl) (by kernel_rfl) (fun _ _ _ h => h) (Or.inl ⟨by rfl, ?_⟩) (by exact hHeld) ?_
  rotate_left
  · intro w hSw; obtain ⟨zx0, zx1⟩ := fb_cells hSw.x; obtain ⟨zy0, zy1⟩ := fb_cells hSw.y; unfold strV fA fB at *; simp only at zx0 zx1 zy0 zy1; go_simp; try with_reducible rfl
  try simp only [Act.put]
  try simp only [List.setIfInBounds_toArray]
  try simp only [List.set]
  refine wpAnyH_ready (rs := [8]) (by kernel_rfl) (by simp) ?_
  refine AllReadyH.cons (o := { dst := some 59, op := Go.Op.call { callee := Go.Callee.value (Go.Operand.func 20), args := #[Go.Operand.const (Go.Value.string { data := #[97] }), Go.Operand.const (Go.Value.string { data := #[49] })], argTypes := #[9, 9] }, type := 28, pos := _, after := _, guard := _ }) rfl (fun K hK => ?_) AllReadyH.nil
  go_simp
  go_at_call 20
  refine (of6_any _ _ _).mono ?_
  rintro e w10 ⟨rfl, a6⟩
  have hS2 := RH.aft hHeld a6
  have A10 := Aft.trans A9 a6
  clear A9
  have A9 := A10
  clear A10 a6
  clear hHeld
  refine hK.out _ _ hS2 (fun hHeld => ?_)
  clear hK K hS2
  try simp only [Act.put]
  try simp only [List.setIfInBounds_toArray]
  try simp only [List.set]
  refine wpAnyH_take (i := 9) (oi := { dst := some 60, op := Go.Op.binOp Go.BinOp.eql 28 (Go.Operand.tmp 58) (Go.Operand.tmp 59) 28, type := 4, pos := _, after := _, guard := _ }) (v := ?_) rfl (by kernel_rfl) (by kernel_rfl) (by kernel_rfl) (fun _ _ _ h => h) (Or.inl ⟨by rfl, ?_⟩) (by exact hHeld) ?_
  rotate_left
  · intro w hSw; go_simp; try with_reducible rfl
  try simp only [Act.put]
  try simp only [List.setIfInBounds_toArray]
  try simp only [List.set]
  refine wpAnyH_take (i := 10) (oi := { dst := some 61, op := Go.Op.pick (Go.Operand.tmp 57) (Go.Operand.tmp 60) (Go.Operand.const (Go.Value.bool false)), type := 4, pos := _, after := _, guard := _ }) (v := ?_) rfl (by kernel_rfl) (by kernel_rfl) (by kernel_rfl) (fun _ _ _ h => h) (Or.inl ⟨by rfl, ?_⟩) (by exact hHeld) ?_
  rotate_left
  · intro w hSw; go_simp; try with_reducible rfl
  try simp only [Act.put]
  try simp only [List.setIfInBounds_toArray]
  try simp only [List.set]
  refine wpAnyH_take (i := 11) (oi := { dst := some 62, op := Go.Op.move (Go.Operand.tmp 61), type := 4, pos := _, after := _, guard := _ }) (v := ?_) rfl (by kernel_rfl) (by kernel_rfl) (by kernel_rfl) (fun _ _ _ h => h) (Or.inl ⟨by rfl, ?_⟩) (by exact hHeld) ?_
  rotate_left
  · intro w hSw; go_simp; try with_reducible rfl
  try simp only [Act.put]
  try simp only [List.setIfInBounds_toArray]
  try simp only [List.set]
  refine wpAnyH_take (i := 12) (oi := { dst := some 63, op := Go.Op.move (Go.Operand.tmp 6), type := 4, pos := _, after := _, guard := _ }) (v := ?_) rfl (by kernel_rfl) (by kernel_rfl) (by kernel_rfl) (fun _ _ _ h => h) (Or.inl ⟨by rfl, ?_⟩) (by exact hHeld) ?_
  rotate_left
  · intro w hSw; go_simp; try with_reducible rfl
  try simp only [Act.put]
  try simp only [List.setIfInBounds_toArray]
  try simp only [List.set]
  refine wpAnyH_take (i := 13) (oi := { dst := some 64, op := Go.Op.pick (Go.Operand.tmp 62) (Go.Operand.tmp 63) (Go.Operand.const (Go.Value.bool false)), type := 4, pos := _, after := _, guard := _ }) (v := ?_) rfl (by kernel_rfl) (by kernel_rfl) (by kernel_rfl) (fun _ _ _ h => h) (Or.inl ⟨by rfl, ?_⟩) (by exact hHeld) ?_
  rotate_left
  · intro w hSw; go_simp; try with_reducible rfl
  try simp only [Act.put]
  try simp only [List.setIfInBounds_toArray]
  try simp only [List.set]
  refine wpAnyH_take (i := 14) (oi := { dst := some 65, op := Go.Op.move (Go.Operand.tmp 64), type := 4, pos := _, after := _, guard := _ }) (v := ?_) rfl (by kernel_rfl) (by kernel_rfl) (by kernel_rfl) (fun _ _ _ h => h) (Or.inl ⟨by rfl, ?_⟩) (by exact hHeld) ?_
  rotate_left
  · intro w hSw; go_simp; try with_reducible rfl
  try simp only [Act.put]
  try simp only [List.setIfInBounds_toArray]
  try simp only [List.set]
  refine wpAnyH_take (i := 15) (oi := { dst := some 66, op := Go.Op.move (Go.Operand.tmp 7), type := 3, pos := _, after := _, guard := _ }) (v := ?_) rfl (by kernel_rfl) (by kernel_rfl) (by kernel_rfl) (fun _ _ _ h => h) (Or.inl ⟨by rfl, ?_⟩) (by exact hHeld) ?_
  rotate_left
  · intro w hSw; go_simp; try with_reducible rfl
  try simp only [Act.put]
  try simp only [List.setIfInBounds_toArray]
  try simp only [List.set]
  refine wpAnyH_take (i := 16) (oi := { dst := some 67, op := Go.Op.binOp Go.BinOp.eql 3 (Go.Operand.tmp 66) (Go.Operand.const (Go.Value.int Go.IntKind.i64 68)) 3, type := 4, pos := _, after := _, guard := _ }) (v := ?_) rfl (by kernel_rfl) (by kernel_rfl) (by kernel_rfl) (fun _ _ _ h => h) (Or.inl ⟨by rfl, ?_⟩) (by exact hHeld) ?_
  rotate_left
  · intro w hSw; go_simp; try with_reducible rfl
  try simp only [Act.put]
  try simp only [List.setIfInBounds_toArray]
  try simp only [List.set]
  refine wpAnyH_take (i := 17) (oi := { dst := some 68, op := Go.Op.pick (Go.Operand.tmp 65) (Go.Operand.tmp 67) (Go.Operand.const (Go.Value.bool false)), type := 4, pos := _, after := _, guard := _ }) (v := ?_) rfl (by kernel_rfl) (by kernel_rfl) (by kernel_rfl) (fun _ _ _ h => h) (Or.inl ⟨by rfl, ?_⟩) (by exact hHeld) ?_
  rotate_left
  · intro w hSw; go_simp; try with_reducible rfl
  try simp only [Act.put]
  try simp only [List.setIfInBounds_toArray]
  try simp only [List.set]
  refine wpAnyH_take (i := 18) (oi := { dst := some 69, op := Go.Op.move (Go.Operand.tmp 68), type := 4, pos := _, after := _, guard := _ }) (v := ?_) rfl (by kernel_rfl) (by kernel_rfl) (by kernel_rfl) (fun _ _ _ h => h) (Or.inl ⟨by rfl, ?_⟩) (by exact hHeld) ?_
  rotate_left
  · intro w hSw; go_simp; try with_reducible rfl
  try simp only [Act.put]
  try simp only [List.setIfInBounds_toArray]
  try simp only [List.set]
  refine wpAnyH_take (i := 19) (oi := { dst := some 70, op := Go.Op.move (Go.Operand.tmp 8), type := 3, pos := _, after := _, guard := _ }) (v := ?_) rfl (by kernel_rfl) (by kernel_rfl) (by kernel_rfl) (fun _ _ _ h => h) (Or.inl ⟨by rfl, ?_⟩) (by exact hHeld) ?_
  rotate_left
  · intro w hSw; go_simp; try with_reducible rfl
  try simp only [Act.put]
  try simp only [List.setIfInBounds_toArray]
  try simp only [List.set]
  refine wpAnyH_take (i := 20) (oi := { dst := some 71, op := Go.Op.binOp Go.BinOp.eql 3 (Go.Operand.tmp 70) (Go.Operand.const (Go.Value.int Go.IntKind.i64 2)) 3, type := 4, pos := _, after := _, guard := _ }) (v := ?_) rfl (by kernel_rfl) (by kernel_rfl) (by kernel_rfl) (fun _ _ _ h => h) (Or.inl ⟨by rfl, ?_⟩) (by exact hHeld) ?_
  rotate_left
  · intro w hSw; go_simp; try with_reducible rfl
  try simp only [Act.put]
  try simp only [List.setIfInBounds_toArray]
  try simp only [List.set]
  refine wpAnyH_take (i := 21) (oi := { dst := some 72, op := Go.Op.pick (Go.Operand.tmp 69) (Go.Operand.tmp 71) (Go.Operand.const (Go.Value.bool false)), type := 4, pos := _, after := _, guard := _ }) (v := ?_) rfl (by kernel_rfl) (by kernel_rfl) (by kernel_rfl) (fun _ _ _ h => h) (Or.inl ⟨by rfl, ?_⟩) (by exact hHeld) ?_
  rotate_left
  · intro w hSw; go_simp; try with_reducible rfl
  try simp only [Act.put]
  try simp only [List.setIfInBounds_toArray]
  try simp only [List.set]
  refine wpAnyH_take (i := 22) (oi := { dst := some 73, op := Go.Op.move (Go.Operand.tmp 72), type := 4, pos := _, after := _, guard := _ }) (v := ?_) rfl (by kernel_rfl) (by kernel_rfl) (by kernel_rfl) (fun _ _ _ h => h) (Or.inl ⟨by rfl, ?_⟩) (by exact hHeld) ?_
  rotate_left
  · intro w hSw; go_simp; try with_reducible rfl
  try simp only [Act.put]
  try simp only [List.setIfInBounds_toArray]
  try simp only [List.set]
  refine wpAnyH_take (i := 23) (oi := { dst := some 74, op := Go.Op.move (Go.Operand.tmp 9), type := 3, pos := _, after := _, guard := _ }) (v := ?_) rfl (by kernel_rfl) (by kernel_rfl) (by kernel_rfl) (fun _ _ _ h => h) (Or.inl ⟨by rfl, ?_⟩) (by exact hHeld) ?_
  rotate_left
  · intro w hSw; go_simp; try with_reducible rfl
  try simp only [Act.put]
  try simp only [List.setIfInBounds_toArray]
  try simp only [List.set]
  refine wpAnyH_take (i := 24) (oi := { dst := some 75, op := Go.Op.binOp Go.BinOp.eql 3 (Go.Operand.tmp 74) (Go.Operand.const (Go.Value.int Go.IntKind.i64 2)) 3, type := 4, pos := _, after := _, guard := _ }) (v := ?_) rfl (by kernel_rfl) (by kernel_rfl) (by kernel_rfl) (fun _ _ _ h => h) (Or.inl ⟨by rfl, ?_⟩) (by exact hHeld) ?_
  rotate_left
  · intro w hSw; go_simp; try with_reducible rfl
  try simp only [Act.put]
  try simp only [List.setIfInBounds_toArray]
  try simp only [List.set]
  refine wpAnyH_take (i := 25) (oi := { dst := some 76, op := Go.Op.pick (Go.Operand.tmp 73) (Go.Operand.tmp 75) (Go.Operand.const (Go.Value.bool false)), type := 4, pos := _, after := _, guard := _ }) (v := ?_) rfl (by kernel_rfl) (by kernel_rfl) (by kernel_rfl) (fun _ _ _ h => h) (Or.inl ⟨by rfl, ?_⟩) (by exact hHeld) ?_
  rotate_left
  · intro w hSw; go_simp; try with_reducible rfl
  try simp only [Act.put]
  try simp only [List.setIfInBounds_toArray]
  try simp only [List.set]
  refine wpAnyH_take (i := 26) (oi := { dst := some 77, op := Go.Op.move (Go.Operand.tmp 76), type := 4, pos := _, after := _, guard := _ }) (v := ?_) rfl (by kernel_rfl) (by kernel_rfl) (by kernel_rfl) (fun _ _ _ h => h) (Or.inl ⟨by rfl, ?_⟩) (by exact hHeld) ?_
  rotate_left
  · intro w hSw; go_simp; try with_reducible rfl
  try simp only [Act.put]
  try simp only [List.setIfInBounds_toArray]
  try simp only [List.set]
  refine wpAnyH_take (i := 27) (oi := { dst := some 78, op := Go.Op.move (Go.Operand.tmp 10), type := 23, pos := _, after := _, guard := _ }) (v := ?_) rfl (by kernel_rfl) (by kernel_rfl) (by kernel_rfl) (fun _ _ _ h => h) (Or.inl ⟨by rfl, ?_⟩) (by exact hHeld) ?_
  rotate_left
  · intro w hSw; go_simp; try with_reducible rfl
  try simp only [Act.put]
  try simp only [List.setIfInBounds_toArray]
  try simp only [List.set]
  refine wpAnyH_take (i := 28) (oi := { dst := some 79, op := Go.Op.binOp Go.BinOp.eql 23 (Go.Operand.tmp 78) (Go.Operand.const (Go.Value.int Go.IntKind.i64 0)) 23, type := 4, pos := _, after := _, guard := _ }) (v := ?_) rfl (by kernel_rfl) (by kernel_rfl) (by kernel_rfl) (fun _ _ _ h => h) (Or.inl ⟨by rfl, ?_⟩) (by exact hHeld) ?_
  rotate_left
  · intro w hSw; go_simp; try with_reducible rfl
  try simp only [Act.put]
  try simp only [List.setIfInBounds_toArray]
  try simp only [List.set]
  refine wpAnyH_take (i := 29) (oi := { dst := some 80, op := Go.Op.pick (Go.Operand.tmp 77) (Go.Operand.tmp 79) (Go.Operand.const (Go.Value.bool false)), type := 4, pos := _, after := _, guard := _ }) (v := ?_) rfl (by kernel_rfl) (by kernel_rfl) (by kernel_rfl) (fun _ _ _ h => h) (Or.inl ⟨by rfl, ?_⟩) (by exact hHeld) ?_
  rotate_left
  · intro w hSw; go_simp; try with_reducible rfl
  try simp only [Act.put]
  try simp only [List.setIfInBounds_toArray]
  try simp only [List.set]
  refine wpAnyH_take (i := 30) (oi := { dst := some 81, op := Go.Op.move (Go.Operand.tmp 80), type := 4, pos := _, after := _, guard := _ }) (v := ?_) rfl (by kernel_rfl) (by kernel_rfl) (by kernel_rfl) (fun _ _ _ h => h) (Or.inl ⟨by rfl, ?_⟩) (by exact hHeld) ?_
  rotate_left
  · intro w hSw; go_simp; try with_reducible rfl
  try simp only [Act.put]
  try simp only [List.setIfInBounds_toArray]
  try simp only [List.set]
  refine wpAnyH_take (i := 31) (oi := { dst := some 82, op := Go.Op.move (Go.Operand.tmp 1), type := 22, pos := _, after := _, guard := _ }) (v := ?_) rfl (by kernel_rfl) (by kernel_rfl) (by kernel_rfl) (fun _ _ _ h => h) (Or.inl ⟨by rfl, ?_⟩) (by exact hHeld) ?_
  rotate_left
  · intro w hSw; go_simp; try with_reducible rfl
  try simp only [Act.put]
  try simp only [List.setIfInBounds_toArray]
  try simp only [List.set]
  refine wpAnyH_ready (rs := [32]) (by kernel_rfl) (by simp) ?_
  refine AllReadyH.cons (o := { dst := some 83, op := Go.Op.call { callee := Go.Callee.value (Go.Operand.func 23), args := #[Go.Operand.tmp 82], argTypes := #[22] }, type := 3, pos := _, after := _, guard := _ }) rfl (fun K hK => ?_) AllReadyH.nil
  go_simp
  go_at_call 23
  refine (len_is 0 hHeld.t rfl).mono ?_
  rintro e w10 ⟨rfl, rfl⟩
  have hS2 := hHeld
  clear hHeld
  refine hK.out _ _ hS2 (fun hHeld => ?_)
  clear hK K hS2
  try simp only [Act.put]
  try simp only [List.setIfInBounds_toArray]
  try simp only [List.set]
  refine wpAnyH_take (i := 33) (oi := { dst := some 84, op := Go.Op.binOp Go.BinOp.eql 3 (Go.Operand.tmp 83) (Go.Operand.const (Go.Value.int Go.IntKind.i64 0)) 3, type := 4, pos := _, after := _, guard := _ }) (v := ?_) rfl (by kernel_rfl) (by kernel_rfl) (by kernel_rfl) (fun _ _ _ h => h) (Or.inl ⟨by rfl, ?_⟩) (by exact hHeld) ?_
  rotate_left
  · intro w hSw; go_simp; try with_reducible rfl
  try simp only [Act.put]
  try simp only [List.setIfInBounds_toArray]
  try simp only [List.set]
  refine wpAnyH_take (i := 34) (oi := { dst := some 85, op := Go.Op.pick (Go.Operand.tmp 81) (Go.Operand.tmp 84) (Go.Operand.const (Go.Value.bool false)), type := 4, pos := _, after := _, guard := _ }) (v := ?_) rfl (by kernel_rfl) (by kernel_rfl) (by kernel_rfl) (fun _ _ _ h => h) (Or.inl ⟨by rfl, ?_⟩) (by exact hHeld) ?_
  rotate_left
  · intro w hSw; go_simp; try with_reducible rfl
  try simp only [Act.put]
  try simp only [List.setIfInBounds_toArray]
  try simp only [List.set]
  refine wpAnyH_take (i := 35) (oi := { dst := some 86, op := Go.Op.move (Go.Operand.tmp 85), type := 4, pos := _, after := _, guard := _ }) (v := ?_) rfl (by kernel_rfl) (by kernel_rfl) (by kernel_rfl) (fun _ _ _ h => h) (Or.inl ⟨by rfl, ?_⟩) (by exact hHeld) ?_
  rotate_left
  · intro w hSw; go_simp; try with_reducible rfl
  try simp only [Act.put]
  try simp only [List.setIfInBounds_toArray]
  try simp only [List.set]
  refine wpAnyH_take (i := 36) (oi := { dst := some 87, op := Go.Op.move (Go.Operand.tmp 1), type := 22, pos := _, after := _, guard := _ }) (v := ?_) rfl (by kernel_rfl) (by kernel_rfl) (by kernel_rfl) (fun _ _ _ h => h) (Or.inl ⟨by rfl, ?_⟩) (by exact hHeld) ?_
  rotate_left
  · intro w hSw; go_simp; try with_reducible rfl
  try simp only [Act.put]
  try simp only [List.setIfInBounds_toArray]
  try simp only [List.set]
  refine wpAnyH_ready (rs := [37]) (by kernel_rfl) (by simp) ?_
  refine AllReadyH.cons (o := { dst := some 88, op := Go.Op.call { callee := Go.Callee.value (Go.Operand.func 20), args := #[Go.Operand.const (Go.Value.string { data := #[58, 109, 101, 116, 104, 111, 100] }), Go.Operand.const (Go.Value.string { data := #[80, 79, 83, 84] })], argTypes := #[9, 9] }, type := 28, pos := _, after := _, guard := _ }) rfl (fun K hK => ?_) AllReadyH.nil
  go_simp
  go_at_call 20
  refine (of6_any _ _ _).mono ?_
  rintro e w10 ⟨rfl, a6⟩
  have hS2 := RH.aft hHeld a6
  have A10 := Aft.trans A9 a6
  clear A9
  have A9 := A10
  clear A10 a6
  clear hHeld
  refine hK.out _ _ hS2 (fun hHeld => ?_)
  clear hK K hS2
  try simp only [Act.put]
  try simp only [List.setIfInBounds_toArray]
  try simp only [List.set]
  refine wpAnyH_ready (rs := [38]) (by kernel_rfl) (by simp) ?_
  refine AllReadyH.cons (o := { dst := some 89, op := Go.Op.call { callee := Go.Callee.value (Go.Operand.func 25), args := #[Go.Operand.tmp 87, Go.Operand.tmp 88, Go.Operand.const (Go.Value.int Go.IntKind.i64 3), Go.Operand.const (Go.Value.bool true)], argTypes := #[22, 28, 3, 4] }, type := 4, pos := _, after := _, guard := _ }) rfl (fun K hK => ?_) AllReadyH.nil
  go_simp
  go_at_call 25
  refine (finds_is ([58, 109, 101, 116, 104, 111, 100], [80, 79, 83, 84]) 3 true hHeld.t (by decide) (by kernel_rfl) _ _ rfl).mono ?_
  rintro e w10 ⟨rfl, a6⟩
  have hS2 := RH.aft hHeld a6
  have A10 := Aft.trans A9 a6
  clear A9
  have A9 := A10
  clear A10 a6
  clear hHeld
  refine hK.out _ _ hS2 (fun hHeld => ?_)
  clear hK K hS2
  try simp only [Act.put]
  try simp only [List.setIfInBounds_toArray]
  try simp only [List.set]
  refine wpAnyH_take (i := 39) (oi := { dst := some 90, op := Go.Op.pick (Go.Operand.tmp 86) (Go.Operand.tmp 89) (Go.Operand.const (Go.Value.bool false)), type := 4, pos := _, after := _, guard := _ }) (v := ?_) rfl (by kernel_rfl) (by kernel_rfl) (by kernel_rfl) (fun _ _ _ h => h) (Or.inl ⟨by rfl, ?_⟩) (by exact hHeld) ?_
  rotate_left
  · intro w hSw; go_simp; try with_reducible rfl
  try simp only [Act.put]
  try simp only [List.setIfInBounds_toArray]
  try simp only [List.set]
  refine wpAnyH_take (i := 40) (oi := { dst := some 91, op := Go.Op.move (Go.Operand.tmp 90), type := 4, pos := _, after := _, guard := _ }) (v := ?_) rfl (by kernel_rfl) (by kernel_rfl) (by kernel_rfl) (fun _ _ _ h => h) (Or.inl ⟨by rfl, ?_⟩) (by exact hHeld) ?_
  rotate_left
  · intro w hSw; go_simp; try with_reducible rfl
  try simp only [Act.put]
  try simp only [List.setIfInBounds_toArray]
  try simp only [List.set]
  refine wpAnyH_take (i := 41) (oi := { dst := some 92, op := Go.Op.move (Go.Operand.tmp 1), type := 22, pos := _, after := _, guard := _ }) (v := ?_) rfl (by kernel_rfl) (by kernel_rfl) (by kernel_rfl) (fun _ _ _ h => h) (Or.inl ⟨by rfl, ?_⟩) (by exact hHeld) ?_
  rotate_left
  · intro w hSw; go_simp; try with_reducible rfl
  try simp only [Act.put]
  try simp only [List.setIfInBounds_toArray]
  try simp only [List.set]
  refine wpAnyH_ready (rs := [42]) (by kernel_rfl) (by simp) ?_
  refine AllReadyH.cons (o := { dst := some 93, op := Go.Op.call { callee := Go.Callee.value (Go.Operand.func 20), args := #[Go.Operand.const (Go.Value.string { data := #[97, 103, 101] }), Go.Operand.const (Go.Value.string { data := #[53] })], argTypes := #[9, 9] }, type := 28, pos := _, after := _, guard := _ }) rfl (fun K hK => ?_) AllReadyH.nil
  go_simp
  go_at_call 20
  refine (of6_any _ _ _).mono ?_
  rintro e w10 ⟨rfl, a6⟩
  have hS2 := RH.aft hHeld a6
  have A10 := Aft.trans A9 a6
  clear A9
  have A9 := A10
  clear A10 a6
  clear hHeld
  refine hK.out _ _ hS2 (fun hHeld => ?_)
  clear hK K hS2
  try simp only [Act.put]
  try simp only [List.setIfInBounds_toArray]
  try simp only [List.set]
  refine wpAnyH_ready (rs := [43]) (by kernel_rfl) (by simp) ?_
  refine AllReadyH.cons (o := { dst := some 94, op := Go.Op.call { callee := Go.Callee.value (Go.Operand.func 25), args := #[Go.Operand.tmp 92, Go.Operand.tmp 93, Go.Operand.const (Go.Value.int Go.IntKind.i64 21), Go.Operand.const (Go.Value.bool false)], argTypes := #[22, 28, 3, 4] }, type := 4, pos := _, after := _, guard := _ }) rfl (fun K hK => ?_) AllReadyH.nil
  go_simp
  go_at_call 25
  refine (finds_is ([97, 103, 101], [53]) 21 false hHeld.t (by decide) (by kernel_rfl) _ _ rfl).mono ?_
  rintro e w10 ⟨rfl, a6⟩
  have hS2 := RH.aft hHeld a6
  have A10 := Aft.trans A9 a6
  clear A9
  have A9 := A10
  clear A10 a6
  clear hHeld
  refine hK.out _ _ hS2 (fun hHeld => ?_)
  clear hK K hS2
  try simp only [Act.put]
  try simp only [List.setIfInBounds_toArray]
  try simp only [List.set]
  refine wpAnyH_take (i := 44) (oi := { dst := some 95, op := Go.Op.pick (Go.Operand.tmp 91) (Go.Operand.tmp 94) (Go.Operand.const (Go.Value.bool false)), type := 4, pos := _, after := _, guard := _ }) (v := ?_) rfl (by kernel_rfl) (by kernel_rfl) (by kernel_rfl) (fun _ _ _ h => h) (Or.inl ⟨by rfl, ?_⟩) (by exact hHeld) ?_
  rotate_left
  · intro w hSw; go_simp; try with_reducible rfl
  try simp only [Act.put]
  try simp only [List.setIfInBounds_toArray]
  try simp only [List.set]
  refine wpAnyH_take (i := 45) (oi := { dst := some 96, op := Go.Op.move (Go.Operand.tmp 95), type := 4, pos := _, after := _, guard := _ }) (v := ?_) rfl (by kernel_rfl) (by kernel_rfl) (by kernel_rfl) (fun _ _ _ h => h) (Or.inl ⟨by rfl, ?_⟩) (by exact hHeld) ?_
  rotate_left
  · intro w hSw; go_simp; try with_reducible rfl
  try simp only [Act.put]
  try simp only [List.setIfInBounds_toArray]
  try simp only [List.set]
  refine wpAnyH_take (i := 46) (oi := { dst := some 97, op := Go.Op.move (Go.Operand.tmp 1), type := 22, pos := _, after := _, guard := _ }) (v := ?_) rfl (by kernel_rfl) (by kernel_rfl) (by kernel_rfl) (fun _ _ _ h => h) (Or.inl ⟨by rfl, ?_⟩) (by exact hHeld) ?_
  rotate_left
  · intro w hSw; go_simp; try with_reducible rfl
  try simp only [Act.put]
  try simp only [List.setIfInBounds_toArray]
  try simp only [List.set]
  refine wpAnyH_ready (rs := [47]) (by kernel_rfl) (by simp) ?_
  refine AllReadyH.cons (o := { dst := some 98, op := Go.Op.call { callee := Go.Callee.value (Go.Operand.func 20), args := #[Go.Operand.const (Go.Value.string { data := #[122, 122] }), Go.Operand.const (Go.Value.string { data := #[] })], argTypes := #[9, 9] }, type := 28, pos := _, after := _, guard := _ }) rfl (fun K hK => ?_) AllReadyH.nil
  go_simp
  go_at_call 20
  refine (of6_any _ _ _).mono ?_
  rintro e w10 ⟨rfl, a6⟩
  have hS2 := RH.aft hHeld a6
  have A10 := Aft.trans A9 a6
  clear A9
  have A9 := A10
  clear A10 a6
  clear hHeld
  refine hK.out _ _ hS2 (fun hHeld => ?_)
  clear hK K hS2
  try simp only [Act.put]
  try simp only [List.setIfInBounds_toArray]
  try simp only [List.set]
  refine wpAnyH_ready (rs := [48]) (by kernel_rfl) (by simp) ?_
  refine AllReadyH.cons (o := { dst := some 99, op := Go.Op.call { callee := Go.Callee.value (Go.Operand.func 25), args := #[Go.Operand.tmp 97, Go.Operand.tmp 98, Go.Operand.const (Go.Value.int Go.IntKind.i64 0), Go.Operand.const (Go.Value.bool false)], argTypes := #[22, 28, 3, 4] }, type := 4, pos := _, after := _, guard := _ }) rfl (fun K hK => ?_) AllReadyH.nil
  go_simp
  go_at_call 25
  refine (finds_is ([122, 122], []) 0 false hHeld.t (by decide) (by kernel_rfl) _ _ rfl).mono ?_
  rintro e w10 ⟨rfl, a6⟩
  have hS2 := RH.aft hHeld a6
  have A10 := Aft.trans A9 a6
  clear A9
  have A9 := A10
  clear A10 a6
  clear hHeld
  refine hK.out _ _ hS2 (fun hHeld => ?_)
  clear hK K hS2
  try simp only [Act.put]
  try simp only [List.setIfInBounds_toArray]
  try simp only [List.set]
  refine wpAnyH_take (i := 49) (oi := { dst := some 100, op := Go.Op.pick (Go.Operand.tmp 96) (Go.Operand.tmp 99) (Go.Operand.const (Go.Value.bool false)), type := 4, pos := _, after := _, guard := _ }) (v := ?_) rfl (by kernel_rfl) (by kernel_rfl) (by kernel_rfl) (fun _ _ _ h => h) (Or.inl ⟨by rfl, ?_⟩) (by exact hHeld) ?_
  rotate_left
  · intro w hSw; go_simp; try with_reducible rfl
  try simp only [Act.put]
  try simp only [List.setIfInBounds_toArray]
  try simp only [List.set]
  refine wpAnyH_take (i := 50) (oi := { dst := some 0, op := Go.Op.assign (Go.Operand.tmp 100), type := 4, pos := _, after := _, guard := _ }) (v := ?_) rfl (by kernel_rfl) (by kernel_rfl) (by kernel_rfl) (fun _ _ _ h => h) (Or.inl ⟨by rfl, ?_⟩) (by exact hHeld) ?_
  rotate_left
  · intro w hSw; go_simp; try with_reducible rfl
  try simp only [Act.put]
  try simp only [List.setIfInBounds_toArray]
  try simp only [List.set]
  refine wpAnyH_done (by kernel_rfl) ?_ _
  go_wp2
  go_ret
  exact ⟨rfl, A9⟩

end Go.Proofs.YtmlnboibclfmcaaDoor
