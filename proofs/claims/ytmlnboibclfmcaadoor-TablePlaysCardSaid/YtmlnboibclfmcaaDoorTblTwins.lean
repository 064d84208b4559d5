/-
  TableRuns. TableFinds. TableTwins.
-/
import Derived.Test.YtmlnboibclfmcaaDoorTblTw0
import Derived.Test.YtmlnboibclfmcaaDoorTbl4
import Derived.Test.YtmlnboibclfmcaaDoorTblP
import Derived.Test.YtmlnboibclfmcaaDoorArgAR
import Derived.Test.YtmlnboibclfmcaaDoorMaxOk
import Derived.Test.YtmlnboibclfmcaaDoorWithin
import Derived.Deep.QuietTactic
import Derived.BigQuiet
namespace Go.Proofs.YtmlnboibclfmcaaDoor
open Go.RowKit
set_option linter.unusedVariables false

theorem Tab.tp {w : World} {B g : Nat} {vo vk : Value} {l : List FieldL} {most : Int} (h : Tab w B g vo vk l most) {n : Nat} (hn : n ≤ B) : ∀ k, TP g vo k → n ≤ k := fun k hk => by
  rcases hk with rfl | hk
  · exact Nat.le_trans hn h.gB
  · exact Nat.le_trans hn (h.own.lt k hk).1
theorem of6_any (n v : ByteArray) (w : World) : Calls Tryd.prog 20 #[.string n, .string v] w fun e w' => e = .returned (.agg #[.string n, .string v]) ∧ Aft w w' := by
  have hset := heap_alloc_new w (.cells #[.string n, .string v] 28)
  have hsz : (Tryd.prog.info? 28).map (·.size) = some (#[Value.string n, Value.string v]).size := by kernel_rfl
  have HS := Lib.hid hset
  have HZ := Lib.hid hsz
  clear hset hsz
  go_enter Tryd.func20, Tryd.ntmps20
  go_wp2_with fail
  refine bodyPost_ret (results_cell_row rfl _ _ w.heap.size 28 #[.string n, .string v] (0, 0) _ rfl HS.out Tryd.underlying28 rfl HZ.out) rfl ?_
  exact ⟨rfl, (Aft.refl w).alloc _⟩
/-- Add, the list behind it named; the world as this text needs it. -/
theorem add_to {w0 w : World} {B g : Nat} {vo vk : Value} {l : List FieldL} {most : Int} (f : FieldL) (l' : List FieldL) (h : Tab w B g vo vk l most) (hs : (sumF l : Int) ≤ most) (hm0 : 0 ≤ most) (hm1 : most ≤ 65536) (hf : fsize f ≤ 1000000000000) (hB : B ≤ w.heap.size) (hl : addF most f l = l') (ha : Aft w0 w) (hw : w0.heap.size ≤ B) :
    Calls Tryd.prog 19 #[.pointer (some ⟨g, 0, none⟩), fieldV f] w fun e w' => e = .returned (.tuple #[]) ∧ ∃ vo', Tab w' B g vo' vk l' most ∧ Aft w0 w' ∧ Chg (TP g vo) w w' ∧ ∀ k, TP g vo' k → TP g vo k ∨ w.heap.size ≤ k := by
  refine (add_any f h hs hm0 hm1 hf hB).mono ?_
  rintro e w' ⟨rfl, vo', ht, hc, hn⟩
  rw [hl] at ht
  exact ⟨rfl, vo', ht, ha.chg hc (h.tp hw), hc, fun k hk => hk.elim (fun e => Or.inl (Or.inl e)) (fun e => (hn k e).imp Or.inr id)⟩
theorem resize_to {w0 w : World} {B g : Nat} {vo vk : Value} {l : List FieldL} {most : Int} (m : Int) (l' : List FieldL) (h : Tab w B g vo vk l most) (hs : sumF l ≤ 1000000000000) (hm0 : 0 ≤ m) (hm1 : m ≤ 65536) (hB : B ≤ w.heap.size) (hl : fitF m l = l') (ha : Aft w0 w) (hw : w0.heap.size ≤ B) :
    Calls Tryd.prog 24 #[.pointer (some ⟨g, 0, none⟩), .int .i64 m] w fun e w' => e = .returned (.int .i64 0) ∧ ∃ vo', Tab w' B g vo' vk l' m ∧ Aft w0 w' ∧ Chg (TP g vo) w w' ∧ ∀ k, TP g vo' k → TP g vo k ∨ w.heap.size ≤ k := by
  refine (resize_yes m h hs hm0 hm1).mono ?_
  rintro e w' ⟨rfl, vo', ht, hc, hn⟩
  rw [hl] at ht
  exact ⟨rfl, vo', ht, ha.chg hc (fun k hk => h.tp hw k (Or.inl hk)), hc.mono (fun k hk => Or.inl hk), fun k hk => hk.elim (fun e => Or.inl (Or.inl e)) (fun e => Or.inl (Or.inr (hn k e)))⟩
theorem size_is {w : World} {B g : Nat} {vo vk : Value} {l : List FieldL} {most : Int} (n : Int) (h : Tab w B g vo vk l most) (hn : (sumF l : Int) = n) : Calls Tryd.prog 22 #[.pointer (some ⟨g, 0, none⟩)] w fun e w' => e = .returned (.int .i64 n) ∧ w = w' := by
  subst hn; exact tsize_any h
theorem len_is {w : World} {B g : Nat} {vo vk : Value} {l : List FieldL} {most : Int} (n : Int) (h : Tab w B g vo vk l most) (hn : (l.length : Int) = n) : Calls Tryd.prog 23 #[.pointer (some ⟨g, 0, none⟩)] w fun e w' => e = .returned (.int .i64 n) ∧ w = w' := by
  subst hn; exact tlen_any h
theorem get_is {w : World} {B g : Nat} {vo vk : Value} {l : List FieldL} {most : Int} (i : Int) (v : Value) (b : Bool) (i0 : -9223372036854775808 ≤ i) (i1 : i ≤ 9223372036854775807) (h : Tab w B g vo vk l most) (hv : fieldV (getF l i) = v) (hb : getB l i = b) :
    Calls Tryd.prog 21 #[.pointer (some ⟨g, 0, none⟩), .int .i64 i] w fun e w' => e = .returned (.tuple #[v, .bool b]) ∧ Aft w w' := by
  subst hv hb
  exact tget_any i i0 i1 h
theorem finds_is {w : World} {B g : Nat} {vo vk : Value} {l : List FieldL} {most : Int} (f : FieldL) (k : Int) (b : Bool) (h : Tab w B g vo vk l most) (hl : l.length ≤ 1000000) (hf : findF l f = (k, b)) (n v : ByteArray) (hn : fieldV f = .agg #[.string n, .string v]) :
    Calls Tryd.prog 25 #[.pointer (some ⟨g, 0, none⟩), .agg #[.string n, .string v], .int .i64 k, .bool b] w fun e w' => e = .returned (.bool true) ∧ Aft w w' := by
  have hA1 : Aft w (w.alloc (.cells #[.string n, .string v] 28)) := (Aft.refl w).alloc _
  have HF := Lib.hid (tfind_any f (h.aft hA1) hl)
  rw [hf, hn] at HF
  have HA1 := Lib.hid hA1
  clear h hl hf hn hA1
  go_enter Tryd.func25, Tryd.ntmps25
  go_wp2_with fail
  refine HF.out.mono ?_
  rintro e w1 ⟨rfl, a1⟩
  have HA2 := Lib.hid (HA1.out.trans a1)
  clear a1
  cases b
  all_goals
    go_wp2_with fail
    go_ret
    exact ⟨rfl, HA2.out⟩

def fA : FieldL := ([97], [49])
def fB : FieldL := ([98], [50])
def fC : FieldL := ([99], [51])
def fD : FieldL := ([99, 99, 99], [])
theorem run1 : addF 70 fA [] = [fA] := by
  unfold addF; rw [if_pos (by decide), fitF_stop (Or.inl rfl)]
theorem run2 : addF 70 fB [fA] = [fB, fA] := by
  unfold addF; rw [if_pos (by decide), fitF_stop (Or.inr (by decide))]
theorem run3 : addF 70 fC [fB, fA] = [fC, fB] := by
  unfold addF; rw [if_pos (by decide), fitF_go (by decide), fitF_stop (Or.inr (by decide))]; rfl
theorem run4 : addF 70 fD [fC, fB] = [fD, fC] := by
  unfold addF; rw [if_pos (by decide), fitF_go (by decide), fitF_stop (Or.inr (by decide))]; rfl
theorem run5 : fitF 33 [fD, fC] = [] := by
  have e1 : [fD, fC].dropLast = [fD] := rfl
  have e2 : [fD].dropLast = [] := rfl
  rw [fitF_go (by decide), e1, fitF_go (by decide), e2, fitF_stop (Or.inl rfl)]

structure RH (B g : Nat) (vo vk : Value) (gx gy : Nat) (w : World) : Prop where
  t : Tab w B g vo vk [] 33
  x : FB w gx [fB]
  y : FB w gy [fA]
theorem RH.aft {B g : Nat} {vo vk : Value} {gx gy : Nat} {w w' : World} (h : RH B g vo vk gx gy w) (ha : Aft w w') : RH B g vo vk gx gy w' :=
  ⟨h.t.aft ha, (Below.block ha.to gx h.x.lt).trans h.x, (Below.block ha.to gy h.y.lt).trans h.y⟩
theorem fb_cells {w : World} {g : Nat} {f : FieldL} (h : FB w g [f]) : w.cell? ⟨g, 0, none⟩ = some (strV f.1) ∧ w.cell? ⟨g, 1, none⟩ = some (strV f.2) := by
  have := h.cell (i := 0) (by simp)
  simpa using this
structure XY (g : Nat) (vo : Value) (gx gy : Nat) (w : World) : Prop where
  x : FB w gx [fB]
  y : FB w gy [fA]
  nx : ¬ TP g vo gx
  ny : ¬ TP g vo gy
theorem XY.aft {g : Nat} {vo : Value} {gx gy : Nat} {w w' : World} (h : XY g vo gx gy w) (ha : Aft w w') : XY g vo gx gy w' := ⟨h.x.aft ha, h.y.aft ha, h.nx, h.ny⟩
theorem XY.step {g : Nat} {vo vo' : Value} {gx gy : Nat} {w w' : World} (h : XY g vo gx gy w) (hc : Chg (TP g vo) w w') (ht : ∀ k, TP g vo' k → TP g vo k ∨ w.heap.size ≤ k) : XY g vo' gx gy w' :=
  ⟨h.x.chg hc h.nx, h.y.chg hc h.ny, fun e => by
    rcases ht gx e with h1 | h1
    · exact h.nx h1
    · have := h.x.lt; omega, fun e => by
    rcases ht gy e with h1 | h1
    · exact h.ny h1
    · have := h.y.lt; omega⟩
theorem Tab.new_tp {w : World} {B g : Nat} {vo vk : Value} {l : List FieldL} {most : Int} (h : Tab w B g vo vk l most) {k : Nat} (hk : w.heap.size ≤ k) : ¬ TP g vo k := fun e => by
  rcases e with e | e
  · have := h.lt; omega
  · have := (h.own.lt k e).2; omega

set_option maxHeartbeats 16000000 in
set_option maxRecDepth 100000 in
theorem tblruns_any (w : World) (hm : MaxOk w) : Calls Tryd.prog 3 #[] w fun e w' => e = .returned (.bool true) ∧ Aft w w' := by
  have HN := Lib.hid (tnew_yes 70 (by decide) (by decide) w hm)
  clear hm
  go_enter Tryd.func3, Tryd.ntmps3
  go_wp2_with fail
  refine HN.out.mono ?_
  rintro e w1 ⟨g, vk, rfl, t1, a1⟩
  have T1 := Lib.hid t1
  have A1 := Lib.hid a1
  clear t1 a1
  go_wp2_with fail
  refine (of6_any _ _ _).mono ?_
  rintro e u2 ⟨rfl, b2⟩
  have TU2 := Lib.hid (T1.out.aft b2)
  have AU2 := Lib.hid (A1.out.trans b2)
  clear b2
  go_wp2_with fail
  refine (add_to (w0 := w) fA [fA] TU2.out (by decide) (by decide) (by decide) (by decide) AU2.out.size run1 AU2.out (Nat.le_refl _)).mono ?_
  rintro e w2 ⟨rfl, vo2, t2, a2, c2, p2⟩
  have T2 := Lib.hid t2
  have A2 := Lib.hid a2
  clear t2 a2 c2 p2
  go_wp2_with fail
  refine (of6_any _ _ _).mono ?_
  rintro e u3 ⟨rfl, b3⟩
  have TU3 := Lib.hid (T2.out.aft b3)
  have AU3 := Lib.hid (A2.out.trans b3)
  clear b3
  go_wp2_with fail
  refine (add_to (w0 := w) fB [fB, fA] TU3.out (by decide) (by decide) (by decide) (by decide) AU3.out.size run2 AU3.out (Nat.le_refl _)).mono ?_
  rintro e w3 ⟨rfl, vo3, t3, a3, c3, p3⟩
  have T3 := Lib.hid t3
  have A3 := Lib.hid a3
  clear t3 a3 c3 p3
  go_wp2_with fail
  refine (get_is 62 (.agg #[.string ⟨#[98]⟩, .string ⟨#[50]⟩]) true (by decide) (by decide) T3.out (by kernel_rfl) (by kernel_rfl)).mono ?_
  rintro e w4 ⟨rfl, a4⟩
  have X4 : Hid (FB (w4.alloc (.cells #[.string ⟨#[98]⟩, .string ⟨#[50]⟩] 28)) w4.heap.size [fB]) := Lib.hid (heap_alloc_new w4 _)
  have T4 := Lib.hid ((T3.out.aft a4).aft ((Aft.refl w4).alloc (.cells #[.string ⟨#[98]⟩, .string ⟨#[50]⟩] 28)))
  have A4 := Lib.hid ((A3.out.trans a4).alloc (.cells #[.string ⟨#[98]⟩, .string ⟨#[50]⟩] 28))
  have NX4 := Lib.hid (T3.out.new_tp a4.size)
  clear a4
  go_upto_region 7 with fail
  generalize w4.heap.size = gx at X4 NX4 ⊢
  generalize w4.alloc (.cells #[.string ⟨#[98]⟩, .string ⟨#[50]⟩] 28) = W4 at X4 T4 A4 ⊢
  go_wp2_with fail
  refine (get_is 63 (.agg #[.string ⟨#[97]⟩, .string ⟨#[49]⟩]) true (by decide) (by decide) T4.out (by kernel_rfl) (by kernel_rfl)).mono ?_
  rintro e w5 ⟨rfl, a5⟩
  have X5 : Hid (FB (w5.alloc (.cells #[.string ⟨#[97]⟩, .string ⟨#[49]⟩] 28)) w5.heap.size [fA]) := Lib.hid (heap_alloc_new w5 _)
  have NX5 := Lib.hid (T4.out.new_tp a5.size)
  have XY5 := Lib.hid (XY.mk ((X4.out.aft a5).aft ((Aft.refl w5).alloc (.cells #[.string ⟨#[97]⟩, .string ⟨#[49]⟩] 28))) X5.out NX4.out NX5.out)
  have T5 := Lib.hid ((T4.out.aft a5).aft ((Aft.refl w5).alloc (.cells #[.string ⟨#[97]⟩, .string ⟨#[49]⟩] 28)))
  have A5 := Lib.hid ((A4.out.trans a5).alloc (.cells #[.string ⟨#[97]⟩, .string ⟨#[49]⟩] 28))
  clear a5 X4 X5 NX4 NX5
  go_upto_region 8 with fail
  generalize w5.heap.size = gy at XY5 ⊢
  generalize w5.alloc (.cells #[.string ⟨#[97]⟩, .string ⟨#[49]⟩] 28) = W5 at XY5 T5 A5 ⊢
  go_wp2_with fail
  refine (size_is 68 T5.out (by decide)).mono ?_
  rintro e w6 ⟨rfl, rfl⟩
  go_wp2_with fail
  refine (of6_any _ _ _).mono ?_
  rintro e u6 ⟨rfl, xb6⟩
  have TU6 := Lib.hid (T5.out.aft xb6)
  have AU6 := Lib.hid (A5.out.trans xb6)
  go_wp2_with fail
  refine (add_to (w0 := w) fC [fC, fB] TU6.out (by decide) (by decide) (by decide) (by decide) AU6.out.size run3 AU6.out (Nat.le_refl _)).mono ?_
  rintro e w6 ⟨rfl, vo6, t6, a6, c6, p6⟩
  have T6 := Lib.hid t6
  have A6 := Lib.hid a6
  have XY6 := Lib.hid ((XY5.out.aft xb6).step c6 p6)
  clear t6 a6 c6 p6
  go_wp2_with fail
  refine (len_is 2 T6.out (by decide)).mono ?_
  rintro e w7 ⟨rfl, rfl⟩
  go_wp2_with fail
  refine (of6_any _ _ _).mono ?_
  rintro e u7 ⟨rfl, xb7⟩
  have TU7 := Lib.hid (T6.out.aft xb7)
  have AU7 := Lib.hid (A6.out.trans xb7)
  go_wp2_with fail
  refine (add_to (w0 := w) fD [fD, fC] TU7.out (by decide) (by decide) (by decide) (by decide) AU7.out.size run4 AU7.out (Nat.le_refl _)).mono ?_
  rintro e w7 ⟨rfl, vo7, t7, a7, c7, p7⟩
  have T7 := Lib.hid t7
  have A7 := Lib.hid a7
  have XY7 := Lib.hid ((XY6.out.aft xb7).step c7 p7)
  clear t7 a7 c7 p7
  go_wp2_with fail
  refine (len_is 2 T7.out (by decide)).mono ?_
  rintro e w8 ⟨rfl, rfl⟩
  go_wp2_with fail
  refine (resize_to (w0 := w) 33 [] T7.out (by decide) (by decide) (by decide) A7.out.size run5 A7.out (Nat.le_refl _)).mono ?_
  rintro e w9 ⟨rfl, vo9, t9, a9, c9, p9⟩
  have RH9 : RH w.heap.size g vo9 vk gx gy w9 := ⟨t9, (XY7.out.step c9 p9).x, (XY7.out.step c9 p9).y⟩
  have A5' := a9
  clear t9 a9 c9 p9 T7 A7 XY7 T6 A6 XY6 T5 A5 XY5 T4 A4
  go_upto_region 14 with fail
  have hH := RH9
  clear RH9
  have A9 : Aft w w9.drew := A5'.drew
  clear A5'
  refine wp_region_held_drew (S := RH w.heap.size g vo9 vk gx gy) (by kernel_rfl) (hH.aft ((Aft.refl _).drew)) (fun hHeld => ?_)
  refine wpAnyH_take (i := 0) (oi := { dst := some 51, op := Go.Op.load 28 (Go.Operand.tmp 3), type := 28, pos := _, after := _, guard := _ }) (v := ?_) rfl (by kernel_rfl) (by kernel_rfl) (by kernel_rfl) (fun _ _ _ h => h) (Or.inl ⟨by rfl, ?_⟩) (by exact hHeld) ?_
  rotate_left
  · intro w hSw; obtain ⟨zx0, zx1⟩ := fb_cells hSw.x; obtain ⟨zy0, zy1⟩ := fb_cells hSw.y; unfold strV fA fB at *; simp only at zx0 zx1 zy0 zy1; go_simp; try with_reducible rfl
  try simp only [Act.put]
  try simp only [List.setIfInBounds_toArray]
  try simp only [List.set]
  refine wpAnyH_ready (rs := [1]) (by kernel_rfl) (by simp) ?_
  refine AllReadyH.cons (o := { dst := some 52, op := Go.Op.call { callee := Go.Callee.value (Go.Operand.func 20), args := #[Go.Operand.const (Go.Value.string { data := #[98] }), Go.Operand.const (Go.Value.string { data := #[50] })], argTypes := #[9, 9] }, type := 28, pos := _, after := _, guard := _ }) rfl (fun K hK => ?_) AllReadyH.nil
  go_simp
  go_at_call 20
  refine (of6_any _ _ _).mono ?_
  rintro e w10 ⟨rfl, a6⟩
  have hS2 := RH.aft hHeld a6
  have A10 := Aft.trans A9 a6
  clear A9
  have A9 := A10
  clear A10 a6
  clear hHeld
  refine hK.out _ _ hS2 (fun hHeld => ?_)
  clear hK K hS2
  try simp only [Act.put]
  try simp only [List.setIfInBounds_toArray]
  try simp only [List.set]
  refine wpAnyH_take (i := 2) (oi := { dst := some 53, op := Go.Op.binOp Go.BinOp.eql 28 (Go.Operand.tmp 51) (Go.Operand.tmp 52) 28, type := 4, pos := _, after := _, guard := _ }) (v := ?_) rfl (by kernel_rfl) (by kernel_rfl) (by kernel_rfl) (fun _ _ _ h => h) (Or.inl ⟨by rfl, ?_⟩) (by exact hHeld) ?_
  rotate_left
  · intro w hSw; go_simp; try with_reducible rfl
  try simp only [Act.put]
  try simp only [List.setIfInBounds_toArray]
  try simp only [List.set]
  refine wpAnyH_take (i := 3) (oi := { dst := some 54, op := Go.Op.move (Go.Operand.tmp 53), type := 4, pos := _, after := _, guard := _ }) (v := ?_) rfl (by kernel_rfl) (by kernel_rfl) (by kernel_rfl) (fun _ _ _ h => h) (Or.inl ⟨by rfl, ?_⟩) (by exact hHeld) ?_
  rotate_left
  · intro w hSw; go_simp; try with_reducible rfl
  try simp only [Act.put]
  try simp only [List.setIfInBounds_toArray]
  try simp only [List.set]
  refine wpAnyH_take (i := 4) (oi := { dst := some 55, op := Go.Op.move (Go.Operand.tmp 4), type := 4, pos := _, after := _, guard := _ }) (v := ?_) rfl (by kernel_rfl) (by kernel_rfl) (by kernel_rfl) (fun _ _ _ h => h) (Or.inl ⟨by rfl, ?_⟩) (by exact hHeld) ?_
  rotate_left
  · intro w hSw; go_simp; try with_reducible rfl
  try simp only [Act.put]
  try simp only [List.setIfInBounds_toArray]
  try simp only [List.set]
  refine wpAnyH_take (i := 5) (oi := { dst := some 56, op := Go.Op.pick (Go.Operand.tmp 54) (Go.Operand.tmp 55) (Go.Operand.const (Go.Value.bool false)), type := 4, pos := _, after := _, guard := _ }) (v := ?_) rfl (by kernel_rfl) (by kernel_rfl) (by kernel_rfl) (fun _ _ _ h => h) (Or.inl ⟨by rfl, ?_⟩) (by exact hHeld) ?_
  rotate_left
  · intro w hSw; go_simp; try with_reducible rfl
  try simp only [Act.put]
  try simp only [List.setIfInBounds_toArray]
  try simp only [List.set]
  refine wpAnyH_take (i := 6) (oi := { dst := some 57, op := Go.Op.move (Go.Operand.tmp 56), type := 4, pos := _, after := _, guard := _ }) (v := ?_) rfl (by kernel_rfl) (by kernel_rfl) (by kernel_rfl) (fun _ _ _ h => h) (Or.inl ⟨by rfl, ?_⟩) (by exact hHeld) ?_
  rotate_left
  · intro w hSw; go_simp; try with_reducible rfl
  try simp only [Act.put]
  try simp only [List.setIfInBounds_toArray]
  try simp only [List.set]
  refine wpAnyH_take (i := 7) (oi := { dst := some 58, op := Go.Op.load 28 (Go.Operand.tmp 5), type := 28, pos := _, after := _, guard := _ }) (v := ?_) rfl (by kernel_rfl) (by kernel_rfl) (by kernel_rfl) (fun _ _ _ h => h) (Or.inl ⟨by rfl, ?_⟩) (by exact hHeld) ?_
  rotate_left
  · intro w hSw; obtain ⟨zx0, zx1⟩ := fb_cells hSw.x; obtain ⟨zy0, zy1⟩ := fb_cells hSw.y; unfold strV fA fB at *; simp only at zx0 zx1 zy0 zy1; go_simp; try with_reducible rfl
  try simp only [Act.put]
  try simp only [List.setIfInBounds_toArray]
  try simp only [List.set]
  refine wpAnyH_ready (rs := [8]) (by kernel_rfl) (by simp) ?_
  refine AllReadyH.cons (o := { dst := some 59, op := Go.Op.call { callee := Go.Callee.value (Go.Operand.func 20), args := #[Go.Operand.const (Go.Value.string { data := #[97] }), Go.Operand.const (Go.Value.string { data := #[49] })], argTypes := #[9, 9] }, type := 28, pos := _, after := _, guard := _ }) rfl (fun K hK => ?_) AllReadyH.nil
  go_simp
  go_at_call 20
  refine (of6_any _ _ _).mono ?_
  rintro e w10 ⟨rfl, a6⟩
  have hS2 := RH.aft hHeld a6
  have A10 := Aft.trans A9 a6
  clear A9
  have A9 := A10
  clear A10 a6
  clear hHeld
  refine hK.out _ _ hS2 (fun hHeld => ?_)
  clear hK K hS2
  try simp only [Act.put]
  try simp only [List.setIfInBounds_toArray]
  try simp only [List.set]
  refine wpAnyH_take (i := 9) (oi := { dst := some 60, op := Go.Op.binOp Go.BinOp.eql 28 (Go.Operand.tmp 58) (Go.Operand.tmp 59) 28, type := 4, pos := _, after := _, guard := _ }) (v := ?_) rfl (by kernel_rfl) (by kernel_rfl) (by kernel_rfl) (fun _ _ _ h => h) (Or.inl ⟨by rfl, ?_⟩) (by exact hHeld) ?_
  rotate_left
  · intro w hSw; go_simp; try with_reducible rfl
  try simp only [Act.put]
  try simp only [List.setIfInBounds_toArray]
  try simp only [List.set]
  refine wpAnyH_take (i := 10) (oi := { dst := some 61, op := Go.Op.pick (Go.Operand.tmp 57) (Go.Operand.tmp 60) (Go.Operand.const (Go.Value.bool false)), type := 4, pos := _, after := _, guard := _ }) (v := ?_) rfl (by kernel_rfl) (by kernel_rfl) (by kernel_rfl) (fun _ _ _ h => h) (Or.inl ⟨by rfl, ?_⟩) (by exact hHeld) ?_
  rotate_left
  · intro w hSw; go_simp; try with_reducible rfl
  try simp only [Act.put]
  try simp only [List.setIfInBounds_toArray]
  try simp only [List.set]
  refine wpAnyH_take (i := 11) (oi := { dst := some 62, op := Go.Op.move (Go.Operand.tmp 61), type := 4, pos := _, after := _, guard := _ }) (v := ?_) rfl (by kernel_rfl) (by kernel_rfl) (by kernel_rfl) (fun _ _ _ h => h) (Or.inl ⟨by rfl, ?_⟩) (by exact hHeld) ?_
  rotate_left
  · intro w hSw; go_simp; try with_reducible rfl
  try simp only [Act.put]
  try simp only [List.setIfInBounds_toArray]
  try simp only [List.set]
  refine wpAnyH_take (i := 12) (oi := { dst := some 63, op := Go.Op.move (Go.Operand.tmp 6), type := 4, pos := _, after := _, guard := _ }) (v := ?_) rfl (by kernel_rfl) (by kernel_rfl) (by kernel_rfl) (fun _ _ _ h => h) (Or.inl ⟨by rfl, ?_⟩) (by exact hHeld) ?_
  rotate_left
  · intro w hSw; go_simp; try with_reducible rfl
  try simp only [Act.put]
  try simp only [List.setIfInBounds_toArray]
  try simp only [List.set]
  refine wpAnyH_take (i := 13) (oi := { dst := some 64, op := Go.Op.pick (Go.Operand.tmp 62) (Go.Operand.tmp 63) (Go.Operand.const (Go.Value.bool false)), type := 4, pos := _, after := _, guard := _ }) (v := ?_) rfl (by kernel_rfl) (by kernel_rfl) (by kernel_rfl) (fun _ _ _ h => h) (Or.inl ⟨by rfl, ?_⟩) (by exact hHeld) ?_
  rotate_left
  · intro w hSw; go_simp; try with_reducible rfl
  try simp only [Act.put]
  try simp only [List.setIfInBounds_toArray]
  try simp only [List.set]
  refine wpAnyH_take (i := 14) (oi := { dst := some 65, op := Go.Op.move (Go.Operand.tmp 64), type := 4, pos := _, after := _, guard := _ }) (v := ?_) rfl (by kernel_rfl) (by kernel_rfl) (by kernel_rfl) (fun _ _ _ h => h) (Or.inl ⟨by rfl, ?_⟩) (by exact hHeld) ?_
  rotate_left
  · intro w hSw; go_simp; try with_reducible rfl
  try simp only [Act.put]
  try simp only [List.setIfInBounds_toArray]
  try simp only [List.set]
  refine wpAnyH_take (i := 15) (oi := { dst := some 66, op := Go.Op.move (Go.Operand.tmp 7), type := 3, pos := _, after := _, guard := _ }) (v := ?_) rfl (by kernel_rfl) (by kernel_rfl) (by kernel_rfl) (fun _ _ _ h => h) (Or.inl ⟨by rfl, ?_⟩) (by exact hHeld) ?_
  rotate_left
  · intro w hSw; go_simp; try with_reducible rfl
  try simp only [Act.put]
  try simp only [List.setIfInBounds_toArray]
  try simp only [List.set]
  refine wpAnyH_take (i := 16) (oi := { dst := some 67, op := Go.Op.binOp Go.BinOp.eql 3 (Go.Operand.tmp 66) (Go.Operand.const (Go.Value.int Go.IntKind.i64 68)) 3, type := 4, pos := _, after := _, guard := _ }) (v := ?_) rfl (by kernel_rfl) (by kernel_rfl) (by kernel_rfl) (fun _ _ _ h => h) (Or.inl ⟨by rfl, ?_⟩) (by exact hHeld) ?_
  rotate_left
  · intro w hSw; go_simp; try with_reducible rfl
  try simp only [Act.put]
  try simp only [List.setIfInBounds_toArray]
  try simp only [List.set]
  refine wpAnyH_take (i := 17) (oi := { dst := some 68, op := Go.Op.pick (Go.Operand.tmp 65) (Go.Operand.tmp 67) (Go.Operand.const (Go.Value.bool false)), type := 4, pos := _, after := _, guard := _ }) (v := ?_) rfl (by kernel_rfl) (by kernel_rfl) (by kernel_rfl) (fun _ _ _ h => h) (Or.inl ⟨by rfl, ?_⟩) (by exact hHeld) ?_
  rotate_left
  · intro w hSw; go_simp; try with_reducible rfl
  try simp only [Act.put]
  try simp only [List.setIfInBounds_toArray]
  try simp only [List.set]
  refine wpAnyH_take (i := 18) (oi := { dst := some 69, op := Go.Op.move (Go.Operand.tmp 68), type := 4, pos := _, after := _, guard := _ }) (v := ?_) rfl (by kernel_rfl) (by kernel_rfl) (by kernel_rfl) (fun _ _ _ h => h) (Or.inl ⟨by rfl, ?_⟩) (by exact hHeld) ?_
  rotate_left
  · intro w hSw; go_simp; try with_reducible rfl
  try simp only [Act.put]
  try simp only [List.setIfInBounds_toArray]
  try simp only [List.set]
  refine wpAnyH_take (i := 19) (oi := { dst := some 70, op := Go.Op.move (Go.Operand.tmp 8), type := 3, pos := _, after := _, guard := _ }) (v := ?_) rfl (by kernel_rfl) (by kernel_rfl) (by kernel_rfl) (fun _ _ _ h => h) (Or.inl ⟨by rfl, ?_⟩) (by exact hHeld) ?_
  rotate_left
  · intro w hSw; go_simp; try with_reducible rfl
  try simp only [Act.put]
  try simp only [List.setIfInBounds_toArray]
  try simp only [List.set]
  refine wpAnyH_take (i := 20) (oi := { dst := some 71, op := Go.Op.binOp Go.BinOp.eql 3 (Go.Operand.tmp 70) (Go.Operand.const (Go.Value.int Go.IntKind.i64 2)) 3, type := 4, pos := _, after := _, guard := _ }) (v := ?_) rfl (by kernel_rfl) (by kernel_rfl) (by kernel_rfl) (fun _ _ _ h => h) (Or.inl ⟨by rfl, ?_⟩) (by exact hHeld) ?_
  rotate_left
  · intro w hSw; go_simp; try with_reducible rfl
  try simp only [Act.put]
  try simp only [List.setIfInBounds_toArray]
  try simp only [List.set]
  refine wpAnyH_take (i := 21) (oi := { dst := some 72, op := Go.Op.pick (Go.Operand.tmp 69) (Go.Operand.tmp 71) (Go.Operand.const (Go.Value.bool false)), type := 4, pos := _, after := _, guard := _ }) (v := ?_) rfl (by kernel_rfl) (by kernel_rfl) (by kernel_rfl) (fun _ _ _ h => h) (Or.inl ⟨by rfl, ?_⟩) (by exact hHeld) ?_
  rotate_left
  · intro w hSw; go_simp; try with_reducible rfl
  try simp only [Act.put]
  try simp only [List.setIfInBounds_toArray]
  try simp only [List.set]
  refine wpAnyH_take (i := 22) (oi := { dst := some 73, op := Go.Op.move (Go.Operand.tmp 72), type := 4, pos := _, after := _, guard := _ }) (v := ?_) rfl (by kernel_rfl) (by kernel_rfl) (by kernel_rfl) (fun _ _ _ h => h) (Or.inl ⟨by rfl, ?_⟩) (by exact hHeld) ?_
  rotate_left
  · intro w hSw; go_simp; try with_reducible rfl
  try simp only [Act.put]
  try simp only [List.setIfInBounds_toArray]
  try simp only [List.set]
  refine wpAnyH_take (i := 23) (oi := { dst := some 74, op := Go.Op.move (Go.Operand.tmp 9), type := 3, pos := _, after := _, guard := _ }) (v := ?_) rfl (by kernel_rfl) (by kernel_rfl) (by kernel_rfl) (fun _ _ _ h => h) (Or.inl ⟨by rfl, ?_⟩) (by exact hHeld) ?_
  rotate_left
  · intro w hSw; go_simp; try with_reducible rfl
  try simp only [Act.put]
  try simp only [List.setIfInBounds_toArray]
  try simp only [List.set]
  refine wpAnyH_take (i := 24) (oi := { dst := some 75, op := Go.Op.binOp Go.BinOp.eql 3 (Go.Operand.tmp 74) (Go.Operand.const (Go.Value.int Go.IntKind.i64 2)) 3, type := 4, pos := _, after := _, guard := _ }) (v := ?_) rfl (by kernel_rfl) (by kernel_rfl) (by kernel_rfl) (fun _ _ _ h => h) (Or.inl ⟨by rfl, ?_⟩) (by exact hHeld) ?_
  rotate_left
  · intro w hSw; go_simp; try with_reducible rfl
  try simp only [Act.put]
  try simp only [List.setIfInBounds_toArray]
  try simp only [List.set]
  refine wpAnyH_take (i := 25) (oi := { dst := some 76, op := Go.Op.pick (Go.Operand.tmp 73) (Go.Operand.tmp 75) (Go.Operand.const (Go.Value.bool false)), type := 4, pos := _, after := _, guard := _ }) (v := ?_) rfl (by kernel_rfl) (by kernel_rfl) (by kernel_rfl) (fun _ _ _ h => h) (Or.inl ⟨by rfl, ?_⟩) (by exact hHeld) ?_
  rotate_left
  · intro w hSw; go_simp; try with_reducible rfl
  try simp only [Act.put]
  try simp only [List.setIfInBounds_toArray]
  try simp only [List.set]
  refine wpAnyH_take (i := 26) (oi := { dst := some 77, op := Go.Op.move (Go.Operand.tmp 76), type := 4, pos := _, after := _, guard := _ }) (v := ?_) rfl (by kernel_rfl) (by kernel_rfl) (by kernel_rfl) (fun _ _ _ h => h) (Or.inl ⟨by rfl, ?_⟩) (by exact hHeld) ?_
  rotate_left
  · intro w hSw; go_simp; try with_reducible rfl
  try simp only [Act.put]
  try simp only [List.setIfInBounds_toArray]
  try simp only [List.set]
  refine wpAnyH_take (i := 27) (oi := { dst := some 78, op := Go.Op.move (Go.Operand.tmp 10), type := 23, pos := _, after := _, guard := _ }) (v := ?_) rfl (by kernel_rfl) (by kernel_rfl) (by kernel_rfl) (fun _ _ _ h => h) (Or.inl ⟨by rfl, ?_⟩) (by exact hHeld) ?_
  rotate_left
  · intro w hSw; go_simp; try with_reducible rfl
  try simp only [Act.put]
  try simp only [List.setIfInBounds_toArray]
  try simp only [List.set]
  refine wpAnyH_take (i := 28) (oi := { dst := some 79, op := Go.Op.binOp Go.BinOp.eql 23 (Go.Operand.tmp 78) (Go.Operand.const (Go.Value.int Go.IntKind.i64 0)) 23, type := 4, pos := _, after := _, guard := _ }) (v := ?_) rfl (by kernel_rfl) (by kernel_rfl) (by kernel_rfl) (fun _ _ _ h => h) (Or.inl ⟨by rfl, ?_⟩) (by exact hHeld) ?_
  rotate_left
  · intro w hSw; go_simp; try with_reducible rfl
  try simp only [Act.put]
  try simp only [List.setIfInBounds_toArray]
  try simp only [List.set]
  refine wpAnyH_take (i := 29) (oi := { dst := some 80, op := Go.Op.pick (Go.Operand.tmp 77) (Go.Operand.tmp 79) (Go.Operand.const (Go.Value.bool false)), type := 4, pos := _, after := _, guard := _ }) (v := ?_) rfl (by kernel_rfl) (by kernel_rfl) (by kernel_rfl) (fun _ _ _ h => h) (Or.inl ⟨by rfl, ?_⟩) (by exact hHeld) ?_
  rotate_left
  · intro w hSw; go_simp; try with_reducible rfl
  try simp only [Act.put]
  try simp only [List.setIfInBounds_toArray]
  try simp only [List.set]
  refine wpAnyH_take (i := 30) (oi := { dst := some 81, op := Go.Op.move (Go.Operand.tmp 80), type := 4, pos := _, after := _, guard := _ }) (v := ?_) rfl (by kernel_rfl) (by kernel_rfl) (by kernel_rfl) (fun _ _ _ h => h) (Or.inl ⟨by rfl, ?_⟩) (by exact hHeld) ?_
  rotate_left
  · intro w hSw; go_simp; try with_reducible rfl
  try simp only [Act.put]
  try simp only [List.setIfInBounds_toArray]
  try simp only [List.set]
  refine wpAnyH_take (i := 31) (oi := { dst := some 82, op := Go.Op.move (Go.Operand.tmp 1), type := 22, pos := _, after := _, guard := _ }) (v := ?_) rfl (by kernel_rfl) (by kernel_rfl) (by kernel_rfl) (fun _ _ _ h => h) (Or.inl ⟨by rfl, ?_⟩) (by exact hHeld) ?_
  rotate_left
  · intro w hSw; go_simp; try with_reducible rfl
  try simp only [Act.put]
  try simp only [List.setIfInBounds_toArray]
  try simp only [List.set]
  refine wpAnyH_ready (rs := [32]) (by kernel_rfl) (by simp) ?_
  refine AllReadyH.cons (o := { dst := some 83, op := Go.Op.call { callee := Go.Callee.value (Go.Operand.func 23), args := #[Go.Operand.tmp 82], argTypes := #[22] }, type := 3, pos := _, after := _, guard := _ }) rfl (fun K hK => ?_) AllReadyH.nil
  go_simp
  go_at_call 23
  refine (len_is 0 hHeld.t rfl).mono ?_
  rintro e w10 ⟨rfl, rfl⟩
  have hS2 := hHeld
  clear hHeld
  refine hK.out _ _ hS2 (fun hHeld => ?_)
  clear hK K hS2
  try simp only [Act.put]
  try simp only [List.setIfInBounds_toArray]
  try simp only [List.set]
  refine wpAnyH_take (i := 33) (oi := { dst := some 84, op := Go.Op.binOp Go.BinOp.eql 3 (Go.Operand.tmp 83) (Go.Operand.const (Go.Value.int Go.IntKind.i64 0)) 3, type := 4, pos := _, after := _, guard := _ }) (v := ?_) rfl (by kernel_rfl) (by kernel_rfl) (by kernel_rfl) (fun _ _ _ h => h) (Or.inl ⟨by rfl, ?_⟩) (by exact hHeld) ?_
  rotate_left
  · intro w hSw; go_simp; try with_reducible rfl
  try simp only [Act.put]
  try simp only [List.setIfInBounds_toArray]
  try simp only [List.set]
  refine wpAnyH_take (i := 34) (oi := { dst := some 85, op := Go.Op.pick (Go.Operand.tmp 81) (Go.Operand.tmp 84) (Go.Operand.const (Go.Value.bool false)), type := 4, pos := _, after := _, guard := _ }) (v := ?_) rfl (by kernel_rfl) (by kernel_rfl) (by kernel_rfl) (fun _ _ _ h => h) (Or.inl ⟨by rfl, ?_⟩) (by exact hHeld) ?_
  rotate_left
  · intro w hSw; go_simp; try with_reducible rfl
  try simp only [Act.put]
  try simp only [List.setIfInBounds_toArray]
  try simp only [List.set]
  refine wpAnyH_take (i := 35) (oi := { dst := some 86, op := Go.Op.move (Go.Operand.tmp 85), type := 4, pos := _, after := _, guard := _ }) (v := ?_) rfl (by kernel_rfl) (by kernel_rfl) (by kernel_rfl) (fun _ _ _ h => h) (Or.inl ⟨by rfl, ?_⟩) (by exact hHeld) ?_
  rotate_left
  · intro w hSw; go_simp; try with_reducible rfl
  try simp only [Act.put]
  try simp only [List.setIfInBounds_toArray]
  try simp only [List.set]
  refine wpAnyH_take (i := 36) (oi := { dst := some 87, op := Go.Op.move (Go.Operand.tmp 1), type := 22, pos := _, after := _, guard := _ }) (v := ?_) rfl (by kernel_rfl) (by kernel_rfl) (by kernel_rfl) (fun _ _ _ h => h) (Or.inl ⟨by rfl, ?_⟩) (by exact hHeld) ?_
  rotate_left
  · intro w hSw; go_simp; try with_reducible rfl
  try simp only [Act.put]
  try simp only [List.setIfInBounds_toArray]
  try simp only [List.set]
  refine wpAnyH_ready (rs := [37]) (by kernel_rfl) (by simp) ?_
  refine AllReadyH.cons (o := { dst := some 88, op := Go.Op.call { callee := Go.Callee.value (Go.Operand.func 20), args := #[Go.Operand.const (Go.Value.string { data := #[58, 109, 101, 116, 104, 111, 100] }), Go.Operand.const (Go.Value.string { data := #[80, 79, 83, 84] })], argTypes := #[9, 9] }, type := 28, pos := _, after := _, guard := _ }) rfl (fun K hK => ?_) AllReadyH.nil
  go_simp
  go_at_call 20
  refine (of6_any _ _ _).mono ?_
  rintro e w10 ⟨rfl, a6⟩
  have hS2 := RH.aft hHeld a6
  have A10 := Aft.trans A9 a6
  clear A9
  have A9 := A10
  clear A10 a6
  clear hHeld
  refine hK.out _ _ hS2 (fun hHeld => ?_)
  clear hK K hS2
  try simp only [Act.put]
  try simp only [List.setIfInBounds_toArray]
  try simp only [List.set]
  refine wpAnyH_ready (rs := [38]) (by kernel_rfl) (by simp) ?_
  refine AllReadyH.cons (o := { dst := some 89, op := Go.Op.call { callee := Go.Callee.value (Go.Operand.func 25), args := #[Go.Operand.tmp 87, Go.Operand.tmp 88, Go.Operand.const (Go.Value.int Go.IntKind.i64 3), Go.Operand.const (Go.Value.bool true)], argTypes := #[22, 28, 3, 4] }, type := 4, pos := _, after := _, guard := _ }) rfl (fun K hK => ?_) AllReadyH.nil
  go_simp
  go_at_call 25
  refine (finds_is ([58, 109, 101, 116, 104, 111, 100], [80, 79, 83, 84]) 3 true hHeld.t (by decide) (by kernel_rfl) _ _ rfl).mono ?_
  rintro e w10 ⟨rfl, a6⟩
  have hS2 := RH.aft hHeld a6
  have A10 := Aft.trans A9 a6
  clear A9
  have A9 := A10
  clear A10 a6
  clear hHeld
  refine hK.out _ _ hS2 (fun hHeld => ?_)
  clear hK K hS2
  try simp only [Act.put]
  try simp only [List.setIfInBounds_toArray]
  try simp only [List.set]
  refine wpAnyH_take (i := 39) (oi := { dst := some 90, op := Go.Op.pick (Go.Operand.tmp 86) (Go.Operand.tmp 89) (Go.Operand.const (Go.Value.bool false)), type := 4, pos := _, after := _, guard := _ }) (v := ?_) rfl (by kernel_rfl) (by kernel_rfl) (by kernel_rfl) (fun _ _ _ h => h) (Or.inl ⟨by rfl, ?_⟩) (by exact hHeld) ?_
  rotate_left
  · intro w hSw; go_simp; try with_reducible rfl
  try simp only [Act.put]
  try simp only [List.setIfInBounds_toArray]
  try simp only [List.set]
  refine wpAnyH_take (i := 40) (oi := { dst := some 91, op := Go.Op.move (Go.Operand.tmp 90), type := 4, pos := _, after := _, guard := _ }) (v := ?_) rfl (by kernel_rfl) (by kernel_rfl) (by kernel_rfl) (fun _ _ _ h => h) (Or.inl ⟨by rfl, ?_⟩) (by exact hHeld) ?_
  rotate_left
  · intro w hSw; go_simp; try with_reducible rfl
  try simp only [Act.put]
  try simp only [List.setIfInBounds_toArray]
  try simp only [List.set]
  refine wpAnyH_take (i := 41) (oi := { dst := some 92, op := Go.Op.move (Go.Operand.tmp 1), type := 22, pos := _, after := _, guard := _ }) (v := ?_) rfl (by kernel_rfl) (by kernel_rfl) (by kernel_rfl) (fun _ _ _ h => h) (Or.inl ⟨by rfl, ?_⟩) (by exact hHeld) ?_
  rotate_left
  · intro w hSw; go_simp; try with_reducible rfl
  try simp only [Act.put]
  try simp only [List.setIfInBounds_toArray]
  try simp only [List.set]
  refine wpAnyH_ready (rs := [42]) (by kernel_rfl) (by simp) ?_
  refine AllReadyH.cons (o := { dst := some 93, op := Go.Op.call { callee := Go.Callee.value (Go.Operand.func 20), args := #[Go.Operand.const (Go.Value.string { data := #[97, 103, 101] }), Go.Operand.const (Go.Value.string { data := #[53] })], argTypes := #[9, 9] }, type := 28, pos := _, after := _, guard := _ }) rfl (fun K hK => ?_) AllReadyH.nil
  go_simp
  go_at_call 20
  refine (of6_any _ _ _).mono ?_
  rintro e w10 ⟨rfl, a6⟩
  have hS2 := RH.aft hHeld a6
  have A10 := Aft.trans A9 a6
  clear A9
  have A9 := A10
  clear A10 a6
  clear hHeld
  refine hK.out _ _ hS2 (fun hHeld => ?_)
  clear hK K hS2
  try simp only [Act.put]
  try simp only [List.setIfInBounds_toArray]
  try simp only [List.set]
  refine wpAnyH_ready (rs := [43]) (by kernel_rfl) (by simp) ?_
  refine AllReadyH.cons (o := { dst := some 94, op := Go.Op.call { callee := Go.Callee.value (Go.Operand.func 25), args := #[Go.Operand.tmp 92, Go.Operand.tmp 93, Go.Operand.const (Go.Value.int Go.IntKind.i64 21), Go.Operand.const (Go.Value.bool false)], argTypes := #[22, 28, 3, 4] }, type := 4, pos := _, after := _, guard := _ }) rfl (fun K hK => ?_) AllReadyH.nil
  go_simp
  go_at_call 25
  refine (finds_is ([97, 103, 101], [53]) 21 false hHeld.t (by decide) (by kernel_rfl) _ _ rfl).mono ?_
  rintro e w10 ⟨rfl, a6⟩
  have hS2 := RH.aft hHeld a6
  have A10 := Aft.trans A9 a6
  clear A9
  have A9 := A10
  clear A10 a6
  clear hHeld
  refine hK.out _ _ hS2 (fun hHeld => ?_)
  clear hK K hS2
  try simp only [Act.put]
  try simp only [List.setIfInBounds_toArray]
  try simp only [List.set]
  refine wpAnyH_take (i := 44) (oi := { dst := some 95, op := Go.Op.pick (Go.Operand.tmp 91) (Go.Operand.tmp 94) (Go.Operand.const (Go.Value.bool false)), type := 4, pos := _, after := _, guard := _ }) (v := ?_) rfl (by kernel_rfl) (by kernel_rfl) (by kernel_rfl) (fun _ _ _ h => h) (Or.inl ⟨by rfl, ?_⟩) (by exact hHeld) ?_
  rotate_left
  · intro w hSw; go_simp; try with_reducible rfl
  try simp only [Act.put]
  try simp only [List.setIfInBounds_toArray]
  try simp only [List.set]
  refine wpAnyH_take (i := 45) (oi := { dst := some 96, op := Go.Op.move (Go.Operand.tmp 95), type := 4, pos := _, after := _, guard := _ }) (v := ?_) rfl (by kernel_rfl) (by kernel_rfl) (by kernel_rfl) (fun _ _ _ h => h) (Or.inl ⟨by rfl, ?_⟩) (by exact hHeld) ?_
  rotate_left
  · intro w hSw; go_simp; try with_reducible rfl
  try simp only [Act.put]
  try simp only [List.setIfInBounds_toArray]
  try simp only [List.set]
  refine wpAnyH_take (i := 46) (oi := { dst := some 97, op := Go.Op.move (Go.Operand.tmp 1), type := 22, pos := _, after := _, guard := _ }) (v := ?_) rfl (by kernel_rfl) (by kernel_rfl) (by kernel_rfl) (fun _ _ _ h => h) (Or.inl ⟨by rfl, ?_⟩) (by exact hHeld) ?_
  rotate_left
  · intro w hSw; go_simp; try with_reducible rfl
  try simp only [Act.put]
  try simp only [List.setIfInBounds_toArray]
  try simp only [List.set]
  refine wpAnyH_ready (rs := [47]) (by kernel_rfl) (by simp) ?_
  refine AllReadyH.cons (o := { dst := some 98, op := Go.Op.call { callee := Go.Callee.value (Go.Operand.func 20), args := #[Go.Operand.const (Go.Value.string { data := #[122, 122] }), Go.Operand.const (Go.Value.string { data := #[] })], argTypes := #[9, 9] }, type := 28, pos := _, after := _, guard := _ }) rfl (fun K hK => ?_) AllReadyH.nil
  go_simp
  go_at_call 20
  refine (of6_any _ _ _).mono ?_
  rintro e w10 ⟨rfl, a6⟩
  have hS2 := RH.aft hHeld a6
  have A10 := Aft.trans A9 a6
  clear A9
  have A9 := A10
  clear A10 a6
  clear hHeld
  refine hK.out _ _ hS2 (fun hHeld => ?_)
  clear hK K hS2
  try simp only [Act.put]
  try simp only [List.setIfInBounds_toArray]
  try simp only [List.set]
  refine wpAnyH_ready (rs := [48]) (by kernel_rfl) (by simp) ?_
  refine AllReadyH.cons (o := { dst := some 99, op := Go.Op.call { callee := Go.Callee.value (Go.Operand.func 25), args := #[Go.Operand.tmp 97, Go.Operand.tmp 98, Go.Operand.const (Go.Value.int Go.IntKind.i64 0), Go.Operand.const (Go.Value.bool false)], argTypes := #[22, 28, 3, 4] }, type := 4, pos := _, after := _, guard := _ }) rfl (fun K hK => ?_) AllReadyH.nil
  go_simp
  go_at_call 25
  refine (finds_is ([122, 122], []) 0 false hHeld.t (by decide) (by kernel_rfl) _ _ rfl).mono ?_
  rintro e w10 ⟨rfl, a6⟩
  have hS2 := RH.aft hHeld a6
  have A10 := Aft.trans A9 a6
  clear A9
  have A9 := A10
  clear A10 a6
  clear hHeld
  refine hK.out _ _ hS2 (fun hHeld => ?_)
  clear hK K hS2
  try simp only [Act.put]
  try simp only [List.setIfInBounds_toArray]
  try simp only [List.set]
  refine wpAnyH_take (i := 49) (oi := { dst := some 100, op := Go.Op.pick (Go.Operand.tmp 96) (Go.Operand.tmp 99) (Go.Operand.const (Go.Value.bool false)), type := 4, pos := _, after := _, guard := _ }) (v := ?_) rfl (by kernel_rfl) (by kernel_rfl) (by kernel_rfl) (fun _ _ _ h => h) (Or.inl ⟨by rfl, ?_⟩) (by exact hHeld) ?_
  rotate_left
  · intro w hSw; go_simp; try with_reducible rfl
  try simp only [Act.put]
  try simp only [List.setIfInBounds_toArray]
  try simp only [List.set]
  refine wpAnyH_take (i := 50) (oi := { dst := some 0, op := Go.Op.assign (Go.Operand.tmp 100), type := 4, pos := _, after := _, guard := _ }) (v := ?_) rfl (by kernel_rfl) (by kernel_rfl) (by kernel_rfl) (fun _ _ _ h => h) (Or.inl ⟨by rfl, ?_⟩) (by exact hHeld) ?_
  rotate_left
  · intro w hSw; go_simp; try with_reducible rfl
  try simp only [Act.put]
  try simp only [List.setIfInBounds_toArray]
  try simp only [List.set]
  refine wpAnyH_done (by kernel_rfl) ?_ _
  go_wp2
  go_ret
  exact ⟨rfl, A9⟩

end Go.Proofs.YtmlnboibclfmcaaDoor
namespace Go.Proofs.YtmlnboibclfmcaaDoor
open Go.ChangeShapes Go.WideShapes Go.ChangeAt Go.RowKit
set_option linter.unusedVariables false

theorem get_end {w : World} {B g : Nat} {vo vk : Value} {l : List FieldL} {most : Int} (h : Tab w B g vo vk l most) (hl : l.length ≤ 1000000) :
    Calls Tryd.prog 21 #[.pointer (some ⟨g, 0, none⟩), .int .i64 (62 + (l.length : Int))] w fun e w' => e = .returned (.tuple #[.agg #[.string ⟨#[]⟩, .string ⟨#[]⟩], .bool false]) ∧ Aft w w' := by
  obtain ⟨i, hi⟩ : ∃ i : Int, 62 + (l.length : Int) = i := ⟨_, rfl⟩
  rw [hi]
  have h1 := (getF_out (l := l) (i := i) (by omega))
  refine get_is i _ false (by omega) (by omega) h ?_ h1.2
  rw [h1.1]
  rfl
theorem get_zero {w : World} {B g : Nat} {vo vk : Value} {l : List FieldL} {most : Int} (h : Tab w B g vo vk l most) :
    Calls Tryd.prog 21 #[.pointer (some ⟨g, 0, none⟩), .int .i64 0] w fun e w' => e = .returned (.tuple #[.agg #[.string ⟨#[]⟩, .string ⟨#[]⟩], .bool false]) ∧ Aft w w' := by
  have h1 := (getF_out (l := l) (i := 0) (by omega))
  refine get_is 0 _ false (by omega) (by omega) h ?_ h1.2
  rw [h1.1]
  rfl
theorem meas_find (n i : Nat) (h : i < 61 + n) : 63 + n - ((i : Int) + 1 + 1).toNat < 63 + n - ((i : Int) + 1).toNat := by omega
theorem TabA.of {w w1 : World} {B g : Nat} {vo vk : Value} {l : List FieldL} {most : Int} (h : Tab w B g vo vk l most) (ha : Aft w w1) : Tab w1 B g vo vk l most := h.aft ha

set_option maxHeartbeats 16000000 in
set_option maxRecDepth 100000 in
theorem tblfinds_any (most : Int) (b0 : -9223372036854775808 ≤ most) (b1 : most ≤ 9223372036854775807) (v : Value) (l : List AskL) (f : FieldL) (w : World) (hm : MaxOk w) (hr : RbA w v l) (hok : ∀ x ∈ l, AskOk 281474976710656 x) (hll : l.length ≤ 281474976710656) (hf : f.1.length + f.2.length ≤ 281474976710656) :
    Calls Tryd.prog 4 #[.int .i64 most, v, fieldV f] w fun e w' => e = .returned (.bool true) ∧ Aft w w' := by
  obtain ⟨f1, f2'⟩ := f
  have HWI := Lib.hid (within_any most 0 5000 b0 b1 (by decide) (by decide) (by decide))
  obtain ⟨va, vc, vb, voff, rfl, hvc, hvm, hcell⟩ := hr.open
  unfold maxLen at hvm
  obtain ⟨F, hF⟩ : ∃ F : ByteArray, (⟨f1.toArray⟩ : ByteArray) = F := ⟨_, rfl⟩
  obtain ⟨G, hG⟩ : ∃ G : ByteArray, (⟨f2'.toArray⟩ : ByteArray) = G := ⟨_, rfl⟩
  have hFd : F.data.toList = f1 := by rw [← hF]
  have hGd : G.data.toList = f2' := by rw [← hG]
  have hfv : fieldV (f1, f2') = .agg #[.string F, .string G] := by unfold fieldV; simp only; rw [hF, hG]
  rw [hfv]
  have HFG := Lib.hid (And.intro hFd (And.intro hGd hfv))
  have hA1 : Aft w (w.alloc (.cells #[.string F, .string G] 28)) := (Aft.refl w).alloc _
  have hbx : FB2 (w.alloc (.cells #[.string F, .string G] 28)) w.heap.size F G := heap_alloc_new w _
  have HM := Lib.hid (hm.aft hA1)
  have HA1 := Lib.hid hA1
  have HBX := Lib.hid hbx
  have HCELL := Lib.hid hcell
  have HOK := Lib.hid hok
  have HWM := Lib.hid hm
  have HWR := Lib.hid hr
  clear hr hm hcell hok hA1 hbx b0 b1 hF hG hFd hGd hfv
  go_enter Tryd.func4, Tryd.ntmps4
  go_wp2_with fail
  obtain ⟨b, hb⟩ : ∃ b, w.heap.size = b := ⟨_, rfl⟩
  rw [hb] at HBX ⊢
  have HBW := Lib.hid hb
  clear hb
  generalize w.alloc (.cells #[.string F, .string G] 28) = W at HM HA1 HBX ⊢
  refine (HWI.out _).mono ?_
  rintro e w0 ⟨r, rfl, r0, r1, rfl⟩
  have HN := Lib.hid (tnew_yes r r0 (by omega) W HM.out)
  go_wp2_with fail
  refine HN.out.mono ?_
  rintro e w1 ⟨g, vk, rfl, t1, a1⟩
  have T1 := Lib.hid t1
  have A1 := Lib.hid a1
  obtain ⟨B, hB⟩ : ∃ B, W.heap.size = B := ⟨_, rfl⟩
  rw [hB] at T1
  have HB := Lib.hid hB
  have R0 := Lib.hid (And.intro r0 r1)
  clear t1 a1 hB r0 r1 HN HWI
  go_wp2_with fail
  go_loopw [9] (fun v9 wr => ∃ (i : Nat) (vo : Value) (tl : List FieldL), i ≤ l.length ∧ v9 = .int .i64 (i : Int) ∧ Hid (Tab wr B g vo vk tl r) ∧ Hid ((sumF tl : Int) ≤ r) ∧ Hid (Aft W wr)) (fun v9 _ => l.length - (intOf v9).toNat)
  case atStart => exact ⟨0, _, [], by omega, by go_num, T1, Lib.hid (by show ((0 : Nat) : Int) ≤ _; have := R0.out; omega), A1⟩
  case round =>
    obtain ⟨i, vo, tl, hi, rfl, HT, HS, HA⟩ := hrel
    by_cases hlt : i < l.length ∧ i < 40
    · obtain ⟨hlt, h40⟩ := hlt
      obtain ⟨rfl, hvb, x0, x1, x2, x3⟩ := HCELL.out i hlt
      have hak := HOK.out _ (List.getElem_mem hlt)
      have hsz := hak.sz
      have HAW := Lib.hid (HA1.out.trans HA.out)
      have y2 : wr.cell? ⟨vb, voff + i * 4 + 2, none⟩ = some (strV l[i].f.1) := by rw [Below.cell HAW.out.to (p := ⟨vb, voff + i * 4 + 2, none⟩) hvb]; exact x2
      have y3 : wr.cell? ⟨vb, voff + i * 4 + 3, none⟩ = some (strV l[i].f.2) := by rw [Below.cell HAW.out.to (p := ⟨vb, voff + i * 4 + 3, none⟩) hvb]; exact x3
      clear hak x0 x1 x2 x3 hvb
      generalize l[i].f = q at y2 y3 hsz
      obtain ⟨q1, q2⟩ := q
      unfold strV at y2 y3
      simp only at y2 y3 hsz
      obtain ⟨X, hX⟩ : ∃ X : ByteArray, (⟨q1.toArray⟩ : ByteArray) = X := ⟨_, rfl⟩
      obtain ⟨Y, hY⟩ : ∃ Y : ByteArray, (⟨q2.toArray⟩ : ByteArray) = Y := ⟨_, rfl⟩
      have zX : X.size = q1.length := by rw [← hX]; show q1.toArray.size = _; simp
      have zY : Y.size = q2.length := by rw [← hY]; show q2.toArray.size = _; simp
      have HQ : Hid ((X.size : Int) + (Y.size : Int) ≤ 1000 → fsize (q1, q2) ≤ 1000000000000) := Lib.hid (fun h => by unfold fsize; simp only; omega)
      have HFV : Hid (fieldV (q1, q2) = .agg #[.string X, .string Y]) := Lib.hid (by unfold fieldV; simp only; rw [hX, hY])
      rw [hX] at y2
      rw [hY] at y3
      rw [← zX, ← zY] at hsz
      have g1 : IntKind.i64.wrap ((X.size : Int) + (Y.size : Int)) = (X.size : Int) + (Y.size : Int) := IntWalk.i64_in _ (by omega)
      have i1 : (i : Int) < (l.length : Int) := by omega
      have i2 : (i : Int) < 40 := by omega
      clear hX hY zX zY
      by_cases hbig : (X.size : Int) + (Y.size : Int) ≤ 1000
      · clear hsz
        replace HQ := Lib.hid (HQ.out (by omega))
        go_wp2_with fail
        go_quiet (fail)
        have HT2 := Lib.hid (HT.out.aft ((Aft.refl wr).drewN nq))
        have HA2 := Lib.hid (HA.out.drewN nq)
        have y2' : (wr.drewN nq).cell? ⟨vb, voff + i * 4 + 2, none⟩ = some (.string X) := y2
        have y3' : (wr.drewN nq).cell? ⟨vb, voff + i * 4 + 3, none⟩ = some (.string Y) := y3
        generalize wr.drewN nq = w2 at HT2 HA2 y2' y3' ⊢
        have HADD := Lib.hid (add_to (w0 := W) (q1, q2) (addF r (q1, q2) tl) HT2.out HS.out R0.out.1 (by have := R0.out; omega) HQ.out (by rw [← HB.out]; exact HA2.out.size) rfl HA2.out (Nat.le_of_eq HB.out))
        rw [HFV.out] at HADD
        go_wp2_with fail
        refine HADD.out.mono ?_
        rintro e w3 ⟨rfl, vo3, t3, a3, -, -⟩
        have T3 := Lib.hid t3
        have A3 := Lib.hid a3
        clear t3 a3
        go_wp2_with fail
        go_roundw
        case rel => exact ⟨i + 1, vo3, _, by omega, by go_num, T3, Lib.hid (addF_le R0.out.1), A3⟩
        case measure => simp [intOf] <;> omega
      · clear hsz
        go_wp2_with fail
        go_quiet (fail)
        go_wp2_with fail
        go_roundw
        case rel => exact ⟨i + 1, vo, tl, by omega, by go_num, Lib.hid (HT.out.aft ((Aft.refl wr).drewN _)), HS, Lib.hid (HA.out.drewN _)⟩
        case measure => simp [intOf] <;> omega
    · have HTL : Hid (tl.length ≤ 1000000) := Lib.hid (by have h1 := sumF_len tl; have h2 := HS.out; have h3 := R0.out; omega)
      have HC9 : Hid (¬ (i < l.length ∧ i < 40)) := Lib.hid hlt
      have hstop : ((i : Int) < (l.length : Int)) → ¬ ((i : Int) < 40) := fun h1 h2 => HC9.out ⟨by omega, by omega⟩
      have HFBX : Hid (FB2 wr b F G) := Lib.hid (HBX.out.aft HA.out)
      clear HC9 HCELL HOK hlt HS
      have hcs : ((i : Int) < (l.length : Int) ∧ ¬ ((i : Int) < 40)) ∨ ¬ ((i : Int) < (l.length : Int)) := by
        by_cases h1 : (i : Int) < (l.length : Int)
        · exact Or.inl ⟨h1, hstop h1⟩
        · exact Or.inr h1
      clear hstop
      rcases hcs with ⟨h1, h2⟩ | h1
      all_goals
        go_wp2_with fail
        go_loopw [10] (fun v10 wx => ∃ i : Nat, i ≤ 61 + tl.length ∧ v10 = .int .i64 ((i : Int) + 1) ∧ Hid (Aft wr wx)) (fun v10 _ => 63 + tl.length - (intOf v10).toNat)
        case atStart => exact ⟨0, by omega, by go_num, Lib.hid (Aft.refl _)⟩
        case round =>
          obtain ⟨i2, hi2, rfl, HX⟩ := hrel
          have HTX := Lib.hid (HT.out.aft HX.out)
          go_wp2_with fail
          refine (tlen_any HTX.out).mono ?_
          rintro e w5 ⟨rfl, rfl⟩
          have g61 : IntKind.i64.wrap (61 + (tl.length : Int)) = 61 + (tl.length : Int) := IntWalk.i64_in _ (by have := HTL.out; omega)
          by_cases hin : i2 < 61 + tl.length
          · obtain ⟨x, hx⟩ := at_get tl i2 hin
            obtain ⟨j, hj, hfd, hgj, hgbj⟩ := find_there tl i2 x hx
            obtain ⟨hgx, hgb, -⟩ := getF_at tl i2 x hx
            have hii : (i2 : Int) + 1 ≤ 61 + (tl.length : Int) := by omega
            have HGX := Lib.hid (get_is ((i2 : Int) + 1) (fieldV x) true (by omega) (by have := HTL.out; omega) HTX.out (by rw [hgx]) hgb)
            have HGJ := Lib.hid (fun w' (h' : Tab w' B g vo vk tl r) => get_is (w := w') ((j : Int) + 1) (fieldV x) true (by omega) (by have := HTL.out; omega) h' (by rw [hgj]) hgbj)
            have HFD := Lib.hid (fun w' (h' : Tab w' B g vo vk tl r) => tfind_any (w := w') x h' HTL.out)
            rw [hfd] at HFD
            obtain ⟨x1, x2⟩ := x
            unfold fieldV at HGX HGJ HFD
            simp only at HGX HGJ HFD
            obtain ⟨X, hX⟩ : ∃ X : ByteArray, (⟨x1.toArray⟩ : ByteArray) = X := ⟨_, rfl⟩
            obtain ⟨Y, hY⟩ : ∃ Y : ByteArray, (⟨x2.toArray⟩ : ByteArray) = Y := ⟨_, rfl⟩
            rw [hX, hY] at HGX HGJ HFD
            have HJ := Lib.hid hj
            have HIN := Lib.hid hin
            clear hx hfd hgj hgbj hgx hgb hX hY hin g61
            have g61 : IntKind.i64.wrap (61 + (tl.length : Int)) = 61 + (tl.length : Int) := IntWalk.i64_in _ (by have := HTL.out; omega)
            go_wp2_with fail
            refine HGX.out.mono ?_
            rintro e w6 ⟨rfl, a6⟩
            have HX6 := Lib.hid (HX.out.trans (a6.alloc (.cells #[.string X, .string Y] 28)))
            have hx6 : FB2 (w6.alloc (.cells #[.string X, .string Y] 28)) w6.heap.size X Y := heap_alloc_new w6 _
            have HB6 := Lib.hid hx6
            clear a6 hx6 HGX
            go_upto_region 13 with fail
            generalize w6.heap.size = gx at HB6 ⊢
            generalize w6.alloc (.cells #[.string X, .string Y] 28) = W6 at HX6 HB6 ⊢
            obtain ⟨z0, z1⟩ := HB6.out.cells
            go_wp2_with fail
            refine (HFD.out _ (HT.out.aft HX6.out)).mono ?_
            rintro e w7 ⟨rfl, a7⟩
            have HX7 := Lib.hid (HX6.out.trans a7)
            have HB7 := Lib.hid (HB6.out.aft a7)
            clear a7 HFD z0 z1 HX6 HB6
            go_wp2_with fail
            refine (HGJ.out _ (HT.out.aft HX7.out)).mono ?_
            rintro e w8 ⟨rfl, a8⟩
            have HX8 := Lib.hid (HX7.out.trans (a8.alloc (.cells #[.string X, .string Y] 28)))
            have hx8 : FB2 (w8.alloc (.cells #[.string X, .string Y] 28)) w8.heap.size X Y := heap_alloc_new w8 _
            have HB8 := Lib.hid hx8
            have HB9 := Lib.hid ((HB7.out.aft a8).aft ((Aft.refl w8).alloc (.cells #[.string X, .string Y] 28)))
            clear a8 hx8 HB7 HGJ HX7
            go_upto_region 15 with fail
            generalize w8.heap.size = gh at HB8 ⊢
            generalize w8.alloc (.cells #[.string X, .string Y] 28) = W8 at HX8 HB8 HB9 ⊢
            obtain ⟨z0, z1⟩ := HB8.out.cells
            obtain ⟨u0, u1⟩ := HB9.out.cells
            have k1 : ¬ ((j : Int) + 1 > (i2 : Int) + 1) := by have := HJ.out; omega
            have k2 : ¬ ((j : Int) + 1 < 1) := by omega
            clear hii g61
            have g62 : wrap64 ((i2 : Int) + 1 + 1) = (i2 : Int) + 1 + 1 := IntWalk.wrap64_in _ ⟨by omega, by have := HIN.out; have := HTL.out; omega⟩
            go_wp2_with fail
            go_roundw
            case rel => exact ⟨i2 + 1, by have := HIN.out; omega, by go_num, HX8⟩
            case measure => rw [g62]; exact meas_find _ _ HIN.out
          · have hii : ¬ ((i2 : Int) + 1 ≤ 61 + (tl.length : Int)) := by omega
            clear hin
            have HFC := Lib.hid (find_cases tl (f1, f2'))
            have HFD := Lib.hid (tfind_any (f1, f2') HTX.out HTL.out)
            have HBF := Lib.hid (HFBX.out.aft HX.out)
            obtain ⟨bx0, bx1⟩ := HBF.out.cells
            rw [HFG.out.2.2] at HFD
            have HG62 := Lib.hid (fun w' (h' : Tab w' B g vo vk tl r) => get_end h' HTL.out)
            have g62 : IntKind.i64.wrap (62 + (tl.length : Int)) = 62 + (tl.length : Int) := IntWalk.i64_in _ (by have := HTL.out; omega)
            have HMR : Hid (∀ w', Aft wr w' → MaxOk w') := Lib.hid (fun w' a => ((HM.out.aft HA.out).aft HX.out).aft a)
            rcases HFC.out with hfc | ⟨j, hj, hfc, hgf, hgb⟩ | ⟨j, x, hj, hfc, hgf, hgb, hxn, hxf⟩
            · rw [hfc] at HFD
              have HGK := Lib.hid (fun w' (h' : Tab w' B g vo vk tl r) => get_zero h')
              clear hfc HFC
              go_wp2_with fail
              refine HFD.out.mono ?_
              rintro e w7 ⟨rfl, a7⟩
              have HT7 := Lib.hid (HTX.out.aft a7)
              have HA7 := Lib.hid a7
              clear a7 HFD bx0 bx1
              go_wp2_with fail
              refine (HGK.out _ HT7.out).mono ?_
              rintro e w8 ⟨rfl, a8⟩
              have HA8 := Lib.hid (HA7.out.trans (a8.alloc (.cells #[.string ⟨#[]⟩, .string ⟨#[]⟩] 28)))
              have hx8 : FB2 (w8.alloc (.cells #[.string ⟨#[]⟩, .string ⟨#[]⟩] 28)) w8.heap.size ⟨#[]⟩ ⟨#[]⟩ := heap_alloc_new w8 _
              have HB8 := Lib.hid hx8
              clear a8 hx8 HGK HT7 HA7
              go_upto_region 19 with fail
              generalize w8.heap.size = gh at HB8 ⊢
              generalize w8.alloc (.cells #[.string ⟨#[]⟩, .string ⟨#[]⟩] 28) = W8 at HA8 HB8 ⊢
              have HT8 := Lib.hid (HTX.out.aft HA8.out)
              go_wp2_with fail
              refine (tlen_any HT8.out).mono ?_
              rintro e w9 ⟨rfl, rfl⟩
              go_wp2_with fail
              refine (HG62.out _ HT8.out).mono ?_
              rintro e w10 ⟨rfl, a10⟩
              have HA10 := Lib.hid (HA8.out.trans (a10.alloc (.cells #[.string ⟨#[]⟩, .string ⟨#[]⟩] 28)))
              have HB10 := Lib.hid ((HB8.out.aft a10).aft ((Aft.refl w10).alloc (.cells #[.string ⟨#[]⟩, .string ⟨#[]⟩] 28)))
              clear a10 HB8 HA8 HT8
              go_upto_region 20 with fail
              generalize w10.heap.size = gn at *
              generalize w10.alloc (.cells #[.string ⟨#[]⟩, .string ⟨#[]⟩] 28) = W10 at HA10 HB10 ⊢
              obtain ⟨z0, z1⟩ := HB10.out.cells
              obtain ⟨bx0, bx1⟩ := (HBF.out.aft HA10.out).cells
              go_wp2_with fail
              refine (tblruns_any _ (HMR.out _ HA10.out)).mono ?_
              rintro e w11 ⟨rfl, a11⟩
              go_wp2_with fail
              go_ret
              exact ⟨rfl, (((HA1.out.trans HA.out).trans HX.out).trans HA10.out).trans a11⟩
            · rw [hfc] at HFD
              have HGK := Lib.hid (fun w' (h' : Tab w' B g vo vk tl r) => get_is (w := w') ((j : Int) + 1) (.agg #[.string F, .string G]) true (by omega) (by have := HTL.out; omega) h' (by rw [hgf, HFG.out.2.2]) hgb)
              have kne : ((j : Int) + 1 == 0) = false := by simp; omega
              clear hfc HFC hgf hgb hj
              go_wp2_with fail
              refine HFD.out.mono ?_
              rintro e w7 ⟨rfl, a7⟩
              have HT7 := Lib.hid (HTX.out.aft a7)
              have HA7 := Lib.hid a7
              clear a7 HFD bx0 bx1
              go_wp2_with fail
              refine (HGK.out _ HT7.out).mono ?_
              rintro e w8 ⟨rfl, a8⟩
              have HA8 := Lib.hid (HA7.out.trans (a8.alloc (.cells #[.string F, .string G] 28)))
              have hx8 : FB2 (w8.alloc (.cells #[.string F, .string G] 28)) w8.heap.size F G := heap_alloc_new w8 _
              have HB8 := Lib.hid hx8
              clear a8 hx8 HGK HT7 HA7
              go_upto_region 19 with fail
              generalize w8.heap.size = gh at HB8 ⊢
              generalize w8.alloc (.cells #[.string F, .string G] 28) = W8 at HA8 HB8 ⊢
              have HT8 := Lib.hid (HTX.out.aft HA8.out)
              go_wp2_with fail
              refine (tlen_any HT8.out).mono ?_
              rintro e w9 ⟨rfl, rfl⟩
              go_wp2_with fail
              refine (HG62.out _ HT8.out).mono ?_
              rintro e w10 ⟨rfl, a10⟩
              have HA10 := Lib.hid (HA8.out.trans (a10.alloc (.cells #[.string ⟨#[]⟩, .string ⟨#[]⟩] 28)))
              have HB10 := Lib.hid ((HB8.out.aft a10).aft ((Aft.refl w10).alloc (.cells #[.string ⟨#[]⟩, .string ⟨#[]⟩] 28)))
              clear a10 HB8 HA8 HT8
              go_upto_region 20 with fail
              generalize w10.heap.size = gn at *
              generalize w10.alloc (.cells #[.string ⟨#[]⟩, .string ⟨#[]⟩] 28) = W10 at HA10 HB10 ⊢
              obtain ⟨z0, z1⟩ := HB10.out.cells
              obtain ⟨bx0, bx1⟩ := (HBF.out.aft HA10.out).cells
              go_wp2_with fail
              refine (tblruns_any _ (HMR.out _ HA10.out)).mono ?_
              rintro e w11 ⟨rfl, a11⟩
              go_wp2_with fail
              go_ret
              exact ⟨rfl, (((HA1.out.trans HA.out).trans HX.out).trans HA10.out).trans a11⟩
            · rw [hfc] at HFD
              obtain ⟨x1, x2⟩ := x
              simp only at hxn
              obtain ⟨Y, hY⟩ : ∃ Y : ByteArray, (⟨x2.toArray⟩ : ByteArray) = Y := ⟨_, rfl⟩
              have hYG : (Y.toList == G.toList) = false := by
                rw [Lib.toList_data, Lib.toList_data, HFG.out.2.1, ← hY]
                have : x2 ≠ f2' := fun e => hxf (by rw [hxn, e])
                simpa using this
              have hxv : fieldV (x1, x2) = .agg #[.string F, .string Y] := by
                have h1 := HFG.out.2.2
                unfold fieldV at h1 ⊢
                simp only at h1 ⊢
                rw [hxn, hY]
                injection h1 with h1
                have h2 : (#[Value.string ⟨f1.toArray⟩, Value.string ⟨f2'.toArray⟩] : Array Value)[0]? = (#[Value.string F, Value.string G] : Array Value)[0]? := by rw [h1]
                simp only [List.getElem?_toArray, List.getElem?_cons_zero] at h2
                rw [Option.some.inj h2]
              have HGK := Lib.hid (fun w' (h' : Tab w' B g vo vk tl r) => get_is (w := w') ((j : Int) + 1) (.agg #[.string F, .string Y]) true (by omega) (by have := HTL.out; omega) h' (by rw [hgf, hxv]) hgb)
              have kne : ((j : Int) + 1 == 0) = false := by simp; omega
              clear hfc HFC hgf hgb hj hxn hxf hY hxv
              go_wp2_with fail
              refine HFD.out.mono ?_
              rintro e w7 ⟨rfl, a7⟩
              have HT7 := Lib.hid (HTX.out.aft a7)
              have HA7 := Lib.hid a7
              clear a7 HFD bx0 bx1
              go_wp2_with fail
              refine (HGK.out _ HT7.out).mono ?_
              rintro e w8 ⟨rfl, a8⟩
              have HA8 := Lib.hid (HA7.out.trans (a8.alloc (.cells #[.string F, .string Y] 28)))
              have hx8 : FB2 (w8.alloc (.cells #[.string F, .string Y] 28)) w8.heap.size F Y := heap_alloc_new w8 _
              have HB8 := Lib.hid hx8
              clear a8 hx8 HGK HT7 HA7
              go_upto_region 19 with fail
              generalize w8.heap.size = gh at HB8 ⊢
              generalize w8.alloc (.cells #[.string F, .string Y] 28) = W8 at HA8 HB8 ⊢
              have HT8 := Lib.hid (HTX.out.aft HA8.out)
              go_wp2_with fail
              refine (tlen_any HT8.out).mono ?_
              rintro e w9 ⟨rfl, rfl⟩
              go_wp2_with fail
              refine (HG62.out _ HT8.out).mono ?_
              rintro e w10 ⟨rfl, a10⟩
              have HA10 := Lib.hid (HA8.out.trans (a10.alloc (.cells #[.string ⟨#[]⟩, .string ⟨#[]⟩] 28)))
              have HB10 := Lib.hid ((HB8.out.aft a10).aft ((Aft.refl w10).alloc (.cells #[.string ⟨#[]⟩, .string ⟨#[]⟩] 28)))
              clear a10 HB8 HA8 HT8
              go_upto_region 20 with fail
              generalize w10.heap.size = gn at *
              generalize w10.alloc (.cells #[.string ⟨#[]⟩, .string ⟨#[]⟩] 28) = W10 at HA10 HB10 ⊢
              obtain ⟨z0, z1⟩ := HB10.out.cells
              obtain ⟨bx0, bx1⟩ := (HBF.out.aft HA10.out).cells
              go_wp2_with fail
              refine (tblruns_any _ (HMR.out _ HA10.out)).mono ?_
              rintro e w11 ⟨rfl, a11⟩
              go_wp2_with fail
              go_ret
              exact ⟨rfl, (((HA1.out.trans HA.out).trans HX.out).trans HA10.out).trans a11⟩

set_option maxRecDepth 100000 in
theorem walkTableFinds (w : World) (hsh : w.ShapedOpen Tryd.prog) {H : Type} {enc : TypeId × Value → H} {base : Nat} {v1 v2 : Value} {d1 d2 : DataW H} {p1 p2 : List MemPlace} (a0 : Int) (w0 : (Lit.int .i64 a0).wf = true)
    (hval1 : Value.okWide Tryd.prog w .any base 36 v1) (k1 : DataW.Trod enc Tryd.prog w 0 (fun _ => true) true 36 v1 d1 p1)
    (hval2 : Value.okWide Tryd.prog w .any base 28 v2) (k2 : DataW.Trod enc Tryd.prog w 0 (fun _ => true) true 28 v2 d2 p2) (hk : (DataW.weightsEach Tryd.prog [3, 36, 28] [(.lit (.int .i64 a0) : DataW H), d1, d2]).all (· ≤ reachBytes) = true) :
    Calls Tryd.prog 4 #[.int .i64 a0, v1, v2] w fun e w' => e = .returned (.bool true) ∧ Aft w w' := by
  obtain ⟨l, hr, hok, hl⟩ := open_asksR hval1 k1 (wt_at hk (j := 1) rfl rfl)
  obtain ⟨f, rfl, hf⟩ := open_fieldR hval2 k2 (wt_at hk (j := 2) rfl rfl)
  have hb := bounds_i64 w0
  exact tblfinds_any a0 hb.1 hb.2 v1 l f w (maxOk_of w hsh) hr hok hl hf

end Go.Proofs.YtmlnboibclfmcaaDoor
namespace Go.Proofs.YtmlnboibclfmcaaDoor
open Go.ChangeShapes Go.WideShapes Go.ChangeAt Go.RowKit
set_option linter.unusedVariables false

def FP (g : Nat) (vo vk : Value) (k : Nat) : Prop := TP g vo k ∨ vk.ownBlock = some k
theorem Tab.fp_lt {w : World} {B g : Nat} {vo vk : Value} {l : List FieldL} {most : Int} (h : Tab w B g vo vk l most) {k : Nat} (hk : FP g vo vk k) : k < w.heap.size := by
  rcases hk with (hk | hk) | hk
  · rw [hk]; exact h.lt
  · exact (h.own.lt k hk).2
  · exact (h.kn.lt k hk).2
theorem Tab.fp_ge {w : World} {B g : Nat} {vo vk : Value} {l : List FieldL} {most : Int} (h : Tab w B g vo vk l most) {k : Nat} (hk : FP g vo vk k) : B ≤ k := by
  rcases hk with (hk | hk) | hk
  · rw [hk]; exact h.gB
  · exact (h.own.lt k hk).1
  · exact (h.kn.lt k hk).1
structure Two (w : World) (B1 g1 : Nat) (o1 k1 : Value) (l1 : List FieldL) (m1 : Int) (B2 g2 : Nat) (o2 k2 : Value) (l2 : List FieldL) (m2 : Int) : Prop where
  a : Tab w B1 g1 o1 k1 l1 m1
  b : Tab w B2 g2 o2 k2 l2 m2
  sep : ∀ k, FP g1 o1 k1 k → FP g2 o2 k2 k → False
theorem Two.symm {w : World} {B1 g1 : Nat} {o1 k1 : Value} {l1 : List FieldL} {m1 : Int} {B2 g2 : Nat} {o2 k2 : Value} {l2 : List FieldL} {m2 : Int} (h : Two w B1 g1 o1 k1 l1 m1 B2 g2 o2 k2 l2 m2) : Two w B2 g2 o2 k2 l2 m2 B1 g1 o1 k1 l1 m1 := ⟨h.b, h.a, fun k x y => h.sep k y x⟩
theorem Two.aft {w w' : World} {B1 g1 : Nat} {o1 k1 : Value} {l1 : List FieldL} {m1 : Int} {B2 g2 : Nat} {o2 k2 : Value} {l2 : List FieldL} {m2 : Int} (h : Two w B1 g1 o1 k1 l1 m1 B2 g2 o2 k2 l2 m2) (ha : Aft w w') : Two w' B1 g1 o1 k1 l1 m1 B2 g2 o2 k2 l2 m2 := ⟨h.a.aft ha, h.b.aft ha, h.sep⟩
theorem Two.step {w w' : World} {B1 g1 : Nat} {o1 k1 : Value} {l1 : List FieldL} {m1 : Int} {B2 g2 : Nat} {o2 k2 : Value} {l2 : List FieldL} {m2 : Int} (h : Two w B1 g1 o1 k1 l1 m1 B2 g2 o2 k2 l2 m2) {o1' : Value} {l1' : List FieldL} {m1' : Int} (ht : Tab w' B1 g1 o1' k1 l1' m1') (hc : Chg (TP g1 o1) w w') (hf : ∀ k, TP g1 o1' k → TP g1 o1 k ∨ w.heap.size ≤ k) : Two w' B1 g1 o1' k1 l1' m1' B2 g2 o2 k2 l2 m2 :=
  ⟨ht, h.b.chg hc (fun e => h.sep g2 (Or.inl e) (Or.inl (Or.inl rfl))) (fun k hk e => h.sep k (Or.inl e) (Or.inl (Or.inr hk))) (fun k hk e => h.sep k (Or.inl e) (Or.inr hk)), fun k x y => by
    rcases x with x | x
    · rcases hf k x with z | z
      · exact h.sep k (Or.inl z) y
      · have := h.b.fp_lt y; omega
    · exact h.sep k (Or.inr x) y⟩

/-- What is known of a table's list and room. -/
def Room (l : List FieldL) (m : Int) : Prop := (sumF l : Int) ≤ m ∧ 0 ≤ m ∧ m ≤ 65536
theorem Room.len {l : List FieldL} {m : Int} (h : Room l m) : l.length ≤ 1000000 := by
  have h1 := sumF_len l
  have h2 := h.1
  have h3 := h.2.2
  omega
theorem two_add {w0 w : World} {B1 g1 : Nat} {o1 k1 : Value} {l1 : List FieldL} {m1 : Int} {B2 g2 : Nat} {o2 k2 : Value} {l2 : List FieldL} {m2 : Int} (h : Two w B1 g1 o1 k1 l1 m1 B2 g2 o2 k2 l2 m2) (f : FieldL) (v : Value) (hv : fieldV f = v) (hf : fsize f ≤ 1000000000000) (hr : Room l1 m1) (ha : Aft w0 w) (hw : w0.heap.size ≤ B1) (hB : B1 ≤ w.heap.size) :
    Calls Tryd.prog 19 #[.pointer (some ⟨g1, 0, none⟩), v] w fun e w' => e = .returned (.tuple #[]) ∧ ∃ o1', Two w' B1 g1 o1' k1 (addF m1 f l1) m1 B2 g2 o2 k2 l2 m2 ∧ Room (addF m1 f l1) m1 ∧ Aft w0 w' := by
  subst hv
  refine (add_to f _ h.a hr.1 hr.2.1 hr.2.2 hf hB rfl ha hw).mono ?_
  rintro e w' ⟨rfl, o1', t, a, c, p⟩
  exact ⟨rfl, o1', h.step t c p, ⟨addF_le hr.2.1, hr.2⟩, a⟩
def rsF (m : Int) (n : Int) (l : List FieldL) : List FieldL := if 0 ≤ n ∧ n ≤ 65536 then fitF n l else l
def rsM (m : Int) (n : Int) : Int := if 0 ≤ n ∧ n ≤ 65536 then n else m
def rsE (n : Int) : Int := if 0 ≤ n ∧ n ≤ 65536 then 0 else 1
theorem two_resize {w0 w : World} {B1 g1 : Nat} {o1 k1 : Value} {l1 : List FieldL} {m1 : Int} {B2 g2 : Nat} {o2 k2 : Value} {l2 : List FieldL} {m2 : Int} (h : Two w B1 g1 o1 k1 l1 m1 B2 g2 o2 k2 l2 m2) (n : Int) (hr : Room l1 m1) (ha : Aft w0 w) (hw : w0.heap.size ≤ B1) (hB : B1 ≤ w.heap.size) :
    Calls Tryd.prog 24 #[.pointer (some ⟨g1, 0, none⟩), .int .i64 n] w fun e w' => e = .returned (.int .i64 (rsE n)) ∧ ∃ o1', Two w' B1 g1 o1' k1 (rsF m1 n l1) (rsM m1 n) B2 g2 o2 k2 l2 m2 ∧ Room (rsF m1 n l1) (rsM m1 n) ∧ Aft w0 w' := by
  unfold rsF rsM rsE
  by_cases hn : 0 ≤ n ∧ n ≤ 65536
  · rw [if_pos hn, if_pos hn, if_pos hn]
    refine (resize_to n _ h.a (by have := hr.1; have := hr.2.2; omega) hn.1 hn.2 hB rfl ha hw).mono ?_
    rintro e w' ⟨rfl, o1', t, a, c, p⟩
    exact ⟨rfl, o1', h.step t c p, ⟨fitF_le' hn.1, hn⟩, a⟩
  · rw [if_neg hn, if_neg hn, if_neg hn]
    refine (resize_no (B := B1) n hn).mono ?_
    rintro e w' ⟨rfl, rfl⟩
    exact ⟨rfl, o1, h, hr, ha⟩
theorem rs_same {l : List FieldL} {m : Int} (h : Room l m) : rsF m m l = l ∧ rsM m m = m ∧ rsE m = 0 := by
  unfold rsF rsM rsE
  rw [if_pos h.2, if_pos h.2, if_pos h.2]
  exact ⟨fitF_stop (Or.inr h.1), rfl, rfl⟩
theorem meas_twin (n j : Nat) (h : j < n) : 63 + n - ((j : Int) + 62 + 1).toNat < 63 + n - ((j : Int) + 62).toNat := by omega
theorem two_ge {w : World} {B1 g1 : Nat} {o1 k1 : Value} {l1 : List FieldL} {m1 : Int} {B2 g2 : Nat} {o2 k2 : Value} {l2 : List FieldL} {m2 : Int} (h : Two w B1 g1 o1 k1 l1 m1 B2 g2 o2 k2 l2 m2) : B2 ≤ w.heap.size := Nat.le_of_lt (Nat.lt_of_le_of_lt h.b.gB h.b.lt)
/-- An ask's cells, in every world behind. -/
theorem ask_cells {w : World} {vb voff i : Nat} {x : AskL} {q1 q2 : List UInt8} {X Y : ByteArray} (hvb : vb < w.heap.size) (h0 : w.cell? ⟨vb, voff + i * 4, none⟩ = some (.int .i64 x.kind)) (h1 : w.cell? ⟨vb, voff + i * 4 + 1, none⟩ = some (.int .i64 x.n)) (h2 : w.cell? ⟨vb, voff + i * 4 + 2, none⟩ = some (strV x.f.1)) (h3 : w.cell? ⟨vb, voff + i * 4 + 3, none⟩ = some (strV x.f.2)) (hX : strV x.f.1 = .string X) (hY : strV x.f.2 = .string Y) (wx : World) (a : Aft w wx) :
    wx.cell? ⟨vb, voff + i * 4, none⟩ = some (.int .i64 x.kind) ∧ wx.cell? ⟨vb, voff + i * 4 + 1, none⟩ = some (.int .i64 x.n) ∧ wx.cell? ⟨vb, voff + i * 4 + 2, none⟩ = some (.string X) ∧ wx.cell? ⟨vb, voff + i * 4 + 3, none⟩ = some (.string Y) := by
  refine ⟨?_, ?_, ?_, ?_⟩
  · rw [Below.cell a.to (p := ⟨vb, voff + i * 4, none⟩) hvb]; exact h0
  · rw [Below.cell a.to (p := ⟨vb, voff + i * 4 + 1, none⟩) hvb]; exact h1
  · rw [Below.cell a.to (p := ⟨vb, voff + i * 4 + 2, none⟩) hvb, h2, hX]
  · rw [Below.cell a.to (p := ⟨vb, voff + i * 4 + 3, none⟩) hvb, h3, hY]

set_option maxHeartbeats 16000000 in
set_option maxRecDepth 100000 in
theorem tbltwins_any (most : Int) (b0 : -9223372036854775808 ≤ most) (b1 : most ≤ 9223372036854775807) (v : Value) (l : List AskL) (w : World) (hm : MaxOk w) (hr : RbA w v l) (hok : ∀ x ∈ l, AskOk 281474976710656 x) (hll : l.length ≤ 281474976710656) :
    Calls Tryd.prog 7 #[.int .i64 most, v] w fun e w' => e = .returned (.bool true) ∧ Aft w w' := by
  have HWI := Lib.hid (within_any most 0 65536 b0 b1 (by decide) (by decide) (by decide))
  obtain ⟨va, vc, vb, voff, rfl, hvc, hvm, hcell⟩ := hr.open
  unfold maxLen at hvm
  have HM := Lib.hid hm
  have HCELL := Lib.hid hcell
  have HOK := Lib.hid hok
  clear hr hm hcell hok b0 b1
  go_enter Tryd.func7, Tryd.ntmps7
  go_wp2_with fail
  refine (HWI.out _).mono ?_
  rintro e w0 ⟨r, rfl, r0, r1, rfl⟩
  have HN := Lib.hid (fun w hm => tnew_yes r r0 (by omega) w hm)
  have R0 := Lib.hid (And.intro r0 r1)
  clear r0 r1
  go_wp2_with fail
  refine (HN.out w HM.out).mono ?_
  rintro e w1 ⟨g1, k1, rfl, t1, a1⟩
  have T1 := Lib.hid t1
  have A1 := Lib.hid a1
  clear t1 a1
  go_wp2_with fail
  refine (HN.out w1 (HM.out.aft A1.out)).mono ?_
  rintro e w2 ⟨g2, k2, rfl, t2, a2⟩
  have h2 : Two w2 w.heap.size g1 (.slice none 0 0) k1 [] r w1.heap.size g2 (.slice none 0 0) k2 [] r := ⟨T1.out.aft a2, t2, fun k x y => by
    have := T1.out.fp_lt x
    have := t2.fp_ge y
    omega⟩
  have H2 := Lib.hid h2
  have A2 := Lib.hid (A1.out.trans a2)
  have HB2 : Hid (w.heap.size ≤ w1.heap.size ∧ w1.heap.size ≤ w2.heap.size) := Lib.hid ⟨A1.out.size, a2.size⟩
  obtain ⟨B2, hB2⟩ : ∃ B2, w1.heap.size = B2 := ⟨_, rfl⟩
  rw [hB2] at H2 HB2
  clear h2 t2 a2 T1 A1 HN HWI hB2
  go_wp2_with fail
  go_loopw [10] (fun v10 wr => ∃ (i : Nat) (o1 o2 : Value) (tl : List FieldL) (m : Int), i ≤ l.length ∧ v10 = .int .i64 (i : Int) ∧ Hid (Two wr w.heap.size g1 o1 k1 tl m B2 g2 o2 k2 tl m) ∧ Hid (Room tl m) ∧ Hid (Aft w wr ∧ B2 ≤ wr.heap.size)) (fun v10 _ => l.length - (intOf v10).toNat)
  case atStart => exact ⟨0, _, _, [], r, by omega, by go_num, H2, Lib.hid ⟨by show ((0 : Nat) : Int) ≤ _; have := R0.out; omega, R0.out⟩, Lib.hid ⟨A2.out, HB2.out.2⟩⟩
  case round =>
    obtain ⟨i, o1, o2, tl, m, hi, rfl, HT, HS, HA⟩ := hrel
    by_cases hlt : i < l.length ∧ i < 60
    · obtain ⟨hlt, h40⟩ := hlt
      obtain ⟨rfl, hvb, x0, x1, x2, x3⟩ := HCELL.out i hlt
      have hak := HOK.out _ (List.getElem_mem hlt)
      have hsz := hak.sz
      generalize l[i] = q at x0 x1 x2 x3 hsz hak
      obtain ⟨X, hX⟩ : ∃ X : ByteArray, (⟨q.f.1.toArray⟩ : ByteArray) = X := ⟨_, rfl⟩
      obtain ⟨Y, hY⟩ : ∃ Y : ByteArray, (⟨q.f.2.toArray⟩ : ByteArray) = Y := ⟨_, rfl⟩
      have zX : X.size = q.f.1.length := by rw [← hX]; show q.f.1.toArray.size = _; simp
      have zY : Y.size = q.f.2.length := by rw [← hY]; show q.f.2.toArray.size = _; simp
      have HQ : Hid ((X.size : Int) + (Y.size : Int) ≤ 1000 → fsize q.f ≤ 1000000000000) := Lib.hid (fun h => by unfold fsize; omega)
      have HFV : Hid (fieldV q.f = .agg #[.string X, .string Y]) := Lib.hid (by unfold fieldV; rw [hX, hY])
      have HASK := Lib.hid (fun wx a => ask_cells (q1 := []) (q2 := []) hvb x0 x1 x2 x3 (by unfold strV; rw [hX]) (by unfold strV; rw [hY]) wx a)
      rw [← zX, ← zY] at hsz
      have HNB := Lib.hid (And.intro hak.n0 hak.n1)
      obtain ⟨kd, hkd⟩ : ∃ kd, q.kind = kd := ⟨_, rfl⟩
      obtain ⟨nn, hnn⟩ : ∃ nn, q.n = nn := ⟨_, rfl⟩
      rw [hkd, hnn] at HASK
      rw [hnn] at HNB
      have g1 : IntKind.i64.wrap ((X.size : Int) + (Y.size : Int)) = (X.size : Int) + (Y.size : Int) := IntWalk.i64_in _ (by omega)
      have i1 : (i : Int) < (l.length : Int) := by omega
      have i2 : (i : Int) < 60 := by omega
      obtain ⟨y0, y1, y2, y3⟩ := HASK.out _ HA.out.1
      clear hX hY zX zY x0 x1 x2 x3 hvb hak hkd hnn
      by_cases hbig : (X.size : Int) + (Y.size : Int) > 1000
      · clear hsz
        go_wp2_with fail
        go_quiet (fail)
        go_wp2_with fail
        go_roundw
        case rel => exact ⟨i + 1, o1, o2, tl, m, by omega, by go_num, Lib.hid (HT.out.aft ((Aft.refl wr).drewN _)), HS, Lib.hid ⟨HA.out.1.drewN _, HA.out.2⟩⟩
        case measure => simp [intOf] <;> omega
      · clear hsz
        replace HQ := Lib.hid (HQ.out (by omega))
        go_wp2_with fail
        go_quiet (fail)
        have HT2 := Lib.hid (HT.out.aft ((Aft.refl wr).drewN nq))
        have HA2 : Hid (Aft w (wr.drewN nq)) := Lib.hid (HA.out.1.drewN nq)
        have HZ2 : Hid (w.heap.size ≤ (wr.drewN nq).heap.size ∧ B2 ≤ (wr.drewN nq).heap.size) := Lib.hid ⟨HA2.out.size, HA.out.2⟩
        clear y0 y1 y2 y3 HT HA
        generalize wr.drewN nq = w3 at HT2 HA2 HZ2 ⊢
        obtain ⟨y0, y1, y2, y3⟩ := HASK.out _ HA2.out
        by_cases hkd2 : kd = 2
        · subst hkd2
          go_wp2_with fail
          refine (two_resize HT2.out nn HS.out HA2.out (Nat.le_refl _) HZ2.out.1).mono ?_
          rintro e w4 ⟨rfl, o1', h4, r4, a4⟩
          have H4 := Lib.hid h4.symm
          have R4 := Lib.hid r4
          have A4 := Lib.hid a4
          have HZ4 : Hid (B2 ≤ w4.heap.size) := Lib.hid (two_ge h4)
          clear h4 r4 a4 y0 y1 y2 y3
          obtain ⟨y0, y1, y2, y3⟩ := HASK.out _ A4.out
          go_wp2_with fail
          refine (two_resize H4.out nn HS.out A4.out HB2.out.1 HZ4.out).mono ?_
          rintro e w5 ⟨rfl, o2', h5, r5, a5⟩
          have H5 := Lib.hid h5
          have R5 := Lib.hid r5
          have A5 := Lib.hid a5
          have HZ5 : Hid (B2 ≤ w5.heap.size) := Lib.hid (two_ge h5.symm)
          clear h5 r5 a5 y0 y1 y2 y3 H4 HT2
          obtain ⟨tl', htl⟩ : ∃ t, rsF m nn tl = t := ⟨_, rfl⟩
          obtain ⟨m', hm'⟩ : ∃ t, rsM m nn = t := ⟨_, rfl⟩
          rw [htl, hm'] at H5 R5 R4
          clear htl hm' HS
          go_wp2_with fail
          refine (tmost_any H5.out.a).mono ?_
          rintro e w6 ⟨rfl, rfl⟩
          have HRS := Lib.hid (two_resize H5.out m' R5.out A5.out HB2.out.1 HZ5.out)
          rw [(rs_same R5.out).1, (rs_same R5.out).2.1, (rs_same R5.out).2.2] at HRS
          go_wp2_with fail
          refine HRS.out.mono ?_
          rintro e w7 ⟨rfl, o2'', h7, r7, a7⟩
          have H7 := Lib.hid h7.symm
          have R7 := Lib.hid r7
          have A7 := Lib.hid a7
          have HZ7 : Hid (B2 ≤ w7.heap.size) := Lib.hid (two_ge h7.symm)
          clear h7 r7 a7 HRS H5 A5
          go_wp2_with fail
          refine (tlen_any H7.out.a).mono ?_
          rintro e w8 ⟨rfl, rfl⟩
          go_wp2_with fail
          refine (tlen_any H7.out.b).mono ?_
          rintro e w8 ⟨rfl, rfl⟩
          go_wp2_with fail
          go_roundw
          case rel => exact ⟨i + 1, o1', o2'', tl', m', by omega, by go_num, H7, R7, Lib.hid ⟨A7.out, HZ7.out⟩⟩
          case measure => simp [intOf] <;> omega
        · have hk3 : (kd == 2) = false := by simpa using hkd2
          clear hkd2
          go_wp2_with fail
          refine (two_add HT2.out q.f _ HFV.out HQ.out HS.out HA2.out (Nat.le_refl _) HZ2.out.1).mono ?_
          rintro e w4 ⟨rfl, o1', h4, r4, a4⟩
          have H4 := Lib.hid h4.symm
          have R4 := Lib.hid r4
          have A4 := Lib.hid a4
          have HZ4 : Hid (B2 ≤ w4.heap.size) := Lib.hid (two_ge h4)
          clear h4 r4 a4 y0 y1 y2 y3
          obtain ⟨y0, y1, y2, y3⟩ := HASK.out _ A4.out
          go_wp2_with fail
          refine (two_add H4.out q.f _ HFV.out HQ.out HS.out A4.out HB2.out.1 HZ4.out).mono ?_
          rintro e w5 ⟨rfl, o2', h5, r5, a5⟩
          have H5 := Lib.hid h5
          have R5 := Lib.hid r5
          have A5 := Lib.hid a5
          have HZ5 : Hid (B2 ≤ w5.heap.size) := Lib.hid (two_ge h5.symm)
          clear h5 r5 a5 y0 y1 y2 y3 H4 HT2
          obtain ⟨tl', htl⟩ : ∃ t, addF m q.f tl = t := ⟨_, rfl⟩
          rw [htl] at H5 R5 R4
          obtain ⟨m', hm'⟩ : ∃ t, m = t := ⟨_, rfl⟩
          rw [hm'] at H5 R5 R4
          clear htl hm' HS
          go_wp2_with fail
          refine (tmost_any H5.out.a).mono ?_
          rintro e w6 ⟨rfl, rfl⟩
          have HRS := Lib.hid (two_resize H5.out m' R5.out A5.out HB2.out.1 HZ5.out)
          rw [(rs_same R5.out).1, (rs_same R5.out).2.1, (rs_same R5.out).2.2] at HRS
          go_wp2_with fail
          refine HRS.out.mono ?_
          rintro e w7 ⟨rfl, o2'', h7, r7, a7⟩
          have H7 := Lib.hid h7.symm
          have R7 := Lib.hid r7
          have A7 := Lib.hid a7
          have HZ7 : Hid (B2 ≤ w7.heap.size) := Lib.hid (two_ge h7.symm)
          clear h7 r7 a7 HRS H5 A5
          go_wp2_with fail
          refine (tlen_any H7.out.a).mono ?_
          rintro e w8 ⟨rfl, rfl⟩
          go_wp2_with fail
          refine (tlen_any H7.out.b).mono ?_
          rintro e w8 ⟨rfl, rfl⟩
          go_wp2_with fail
          go_roundw
          case rel => exact ⟨i + 1, o1', o2'', tl', m', by omega, by go_num, H7, R7, Lib.hid ⟨A7.out, HZ7.out⟩⟩
          case measure => simp [intOf] <;> omega
    · have HC9 : Hid (¬ (i < l.length ∧ i < 60)) := Lib.hid hlt
      have hstop : ((i : Int) < (l.length : Int)) → ¬ ((i : Int) < 60) := fun h1 h2 => HC9.out ⟨by omega, by omega⟩
      have hcs : ((i : Int) < (l.length : Int) ∧ ¬ ((i : Int) < 60)) ∨ ¬ ((i : Int) < (l.length : Int)) := by
        by_cases h1 : (i : Int) < (l.length : Int)
        · exact Or.inl ⟨h1, hstop h1⟩
        · exact Or.inr h1
      have HTL : Hid (tl.length ≤ 1000000) := Lib.hid HS.out.len
      clear hstop HC9 HCELL HOK hlt HS
      rcases hcs with ⟨h1, h2⟩ | h1
      all_goals
        go_wp2_with fail
        go_loopw [11] (fun v11 wx => ∃ j : Nat, j ≤ tl.length ∧ v11 = .int .i64 ((j : Int) + 62) ∧ Hid (Aft wr wx)) (fun v11 _ => 63 + tl.length - (intOf v11).toNat)
        case atStart => exact ⟨0, by omega, rfl, Lib.hid (Aft.refl _)⟩
        case round =>
          obtain ⟨j, hj, rfl, HX⟩ := hrel
          have HTX := Lib.hid (HT.out.aft HX.out)
          have g62 : IntKind.i64.wrap (62 + (tl.length : Int)) = 62 + (tl.length : Int) := IntWalk.i64_in _ (by have := HTL.out; omega)
          go_wp2_with fail
          refine (tlen_any HTX.out.a).mono ?_
          rintro e w5 ⟨rfl, rfl⟩
          by_cases hin : j < tl.length
          · obtain ⟨hg, hgb⟩ := getF_own tl j hin
            have HGA := Lib.hid (fun w' (h' : Two w' w.heap.size g1 o1 k1 tl m B2 g2 o2 k2 tl m) => get_is (w := w') ((j : Int) + 62) (fieldV tl[j]) true (by omega) (by have := HTL.out; omega) h'.a (by rw [hg]) hgb)
            have HGB := Lib.hid (fun w' (h' : Two w' w.heap.size g1 o1 k1 tl m B2 g2 o2 k2 tl m) => get_is (w := w') ((j : Int) + 62) (fieldV tl[j]) true (by omega) (by have := HTL.out; omega) h'.b (by rw [hg]) hgb)
            clear hg hgb
            generalize tl[j] = x at HGA HGB
            obtain ⟨x1, x2⟩ := x
            unfold fieldV at HGA HGB
            simp only at HGA HGB
            obtain ⟨X, hX⟩ : ∃ X : ByteArray, (⟨x1.toArray⟩ : ByteArray) = X := ⟨_, rfl⟩
            obtain ⟨Y, hY⟩ : ∃ Y : ByteArray, (⟨x2.toArray⟩ : ByteArray) = Y := ⟨_, rfl⟩
            rw [hX, hY] at HGA HGB
            have HIN := Lib.hid hin
            have hii : (j : Int) + 62 < 62 + (tl.length : Int) := by omega
            clear hX hY hin
            go_wp2_with fail
            refine (HGA.out _ HTX.out).mono ?_
            rintro e w6 ⟨rfl, a6⟩
            have HX6 := Lib.hid (HX.out.trans (a6.alloc (.cells #[.string X, .string Y] 28)))
            have hx6 : FB2 (w6.alloc (.cells #[.string X, .string Y] 28)) w6.heap.size X Y := heap_alloc_new w6 _
            have HB6 := Lib.hid hx6
            clear a6 hx6 HGA
            go_upto_region 21 with fail
            generalize w6.heap.size = gx at HB6 ⊢
            generalize w6.alloc (.cells #[.string X, .string Y] 28) = W6 at HX6 HB6 ⊢
            go_wp2_with fail
            refine (HGB.out _ (HT.out.aft HX6.out)).mono ?_
            rintro e w8 ⟨rfl, a8⟩
            have HX8 := Lib.hid (HX6.out.trans (a8.alloc (.cells #[.string X, .string Y] 28)))
            have hx8 : FB2 (w8.alloc (.cells #[.string X, .string Y] 28)) w8.heap.size X Y := heap_alloc_new w8 _
            have HB8 := Lib.hid hx8
            have HB9 := Lib.hid ((HB6.out.aft a8).aft ((Aft.refl w8).alloc (.cells #[.string X, .string Y] 28)))
            clear a8 hx8 HGB HX6 HB6
            go_upto_region 22 with fail
            generalize w8.heap.size = gh at HB8 ⊢
            generalize w8.alloc (.cells #[.string X, .string Y] 28) = W8 at HX8 HB8 HB9 ⊢
            obtain ⟨z0, z1⟩ := HB8.out.cells
            obtain ⟨u0, u1⟩ := HB9.out.cells
            have g63 : wrap64 ((j : Int) + 62 + 1) = (j : Int) + 62 + 1 := IntWalk.wrap64_in _ ⟨by omega, by have := HIN.out; have := HTL.out; omega⟩
            go_wp2_with fail
            go_roundw
            case rel => exact ⟨j + 1, HIN.out, by (try rw [g63]); exact congrArg (Value.int .i64) (by push_cast; omega), HX8⟩
            case measure => (try rw [g63]); exact meas_twin _ _ HIN.out
          · have hii : ¬ ((j : Int) + 62 < 62 + (tl.length : Int)) := by omega
            clear hin
            have HMR : Hid (MaxOk wr) := Lib.hid ((HM.out.aft HA.out.1).aft HX.out)
            have HAW := Lib.hid (HA.out.1.trans HX.out)
            go_wp2_with fail
            refine (tblruns_any _ HMR.out).mono ?_
            rintro e w11 ⟨rfl, a11⟩
            go_wp2_with fail
            go_ret
            exact ⟨rfl, HAW.out.trans a11⟩

set_option maxRecDepth 100000 in
theorem walkTableTwins (w : World) (hsh : w.ShapedOpen Tryd.prog) {H : Type} {enc : TypeId × Value → H} {base : Nat} {v1 : Value} {d1 : DataW H} {p1 : List MemPlace} (a0 : Int) (w0 : (Lit.int .i64 a0).wf = true)
    (hval1 : Value.okWide Tryd.prog w .any base 36 v1) (k1 : DataW.Trod enc Tryd.prog w 0 (fun _ => true) true 36 v1 d1 p1) (hk : (DataW.weightsEach Tryd.prog [3, 36] [(.lit (.int .i64 a0) : DataW H), d1]).all (· ≤ reachBytes) = true) :
    Calls Tryd.prog 7 #[.int .i64 a0, v1] w fun e w' => e = .returned (.bool true) ∧ Aft w w' := by
  obtain ⟨l, hr, hok, hl⟩ := open_asksR hval1 k1 (wt_at hk (j := 1) rfl rfl)
  have hb := bounds_i64 w0
  exact tbltwins_any a0 hb.1 hb.2 v1 l w (maxOk_of w hsh) hr hok hl


end Go.Proofs.YtmlnboibclfmcaaDoor
