/-
  KeepRuns.
-/
import Derived.Test.YtaaffpndfeidfaaKeepMay
import Derived.Test.YtaaffpndfeidfaaFlP
import Derived.Deep.RegionHeld
namespace Go.Proofs.Ytaaffpndfeidfaa
open Go.RowKit
set_option linter.unusedVariables false

theorem of18_any (n v : ByteArray) (w : World) : Calls Try.prog 20 #[.string n, .string v] w fun e w' => e = .returned (.agg #[.string n, .string v]) ∧ Aft w w' := by
  have hset := heap_alloc_new w (.cells #[.string n, .string v] 27)
  have hsz : (Try.prog.info? 27).map (·.size) = some (#[Value.string n, Value.string v]).size := by kernel_rfl
  have HS := Lib.hid hset
  have HZ := Lib.hid hsz
  clear hset hsz
  go_enter Try.func20, Try.ntmps20
  go_wp2_with fail
  refine bodyPost_ret (results_cell_row rfl _ _ w.heap.size 27 #[.string n, .string v] (0, 0) _ rfl HS.out Try.underlying27 rfl HZ.out) rfl ?_
  exact ⟨rfl, (Aft.refl w).alloc _⟩
theorem say_any (n : Int) (a : Option Addr) (l c : Nat) (w : World) : Calls Try.prog 32 #[.int .i64 n, .slice a l c] w fun e w' => e = .returned (.agg #[.int .i64 n, .slice a l c, .int .i64 0]) ∧ Aft w w' := by
  have hset := heap_alloc_new w (.cells #[.int .i64 n, .slice a l c, .int .i64 0] 44)
  have hsz : (Try.prog.info? 44).map (·.size) = some (#[Value.int .i64 n, Value.slice a l c, Value.int .i64 0]).size := by kernel_rfl
  have HS := Lib.hid hset
  have HZ := Lib.hid hsz
  clear hset hsz
  go_enter Try.func32, Try.ntmps32
  go_wp2_with fail
  refine bodyPost_ret (results_cell_row rfl _ _ w.heap.size 44 #[.int .i64 n, .slice a l c, .int .i64 0] (0, 0) _ rfl HS.out Try.underlying44 rfl HZ.out) rfl ?_
  exact ⟨rfl, (Aft.refl w).alloc _⟩
theorem rbF_new (n v : ByteArray) (W W' : World) (g : Nat) (ha : Aft (W.alloc (.cells #[.string n, .string v] 27)) W') (hg : W.heap.size = g) : RbF W' (.slice (some ⟨g, 0, none⟩) 1 1) [(n.data.toList, v.data.toList)] := by
  subst hg
  have h : FB (W.alloc (.cells #[.string n, .string v] 27)) W.heap.size [(n.data.toList, v.data.toList)] := heap_alloc_new W _
  have := h.rb (by simp [maxLen]) 1 (by simp)
  exact RbF.aft this ha
theorem say_f (W : World) (n v : ByteArray) (st : Int) (W' : World) (g : Nat) (ha : Aft (W.alloc (.cells #[.string n, .string v] 27)) W') (hg : W.heap.size = g) :
    Calls Try.prog 32 #[.int .i64 st, .slice (some ⟨g, 0, none⟩) 1 1] W' fun e w' => e = .returned (.agg #[.int .i64 st, .slice (some ⟨g, 0, none⟩) 1 1, .int .i64 0]) ∧ RbF w' (.slice (some ⟨g, 0, none⟩) 1 1) [(n.data.toList, v.data.toList)] ∧ Aft W' w' := by
  refine (say_any st _ 1 1 W').mono ?_
  rintro e w' ⟨rfl, a⟩
  exact ⟨rfl, (rbF_new n v W W' g ha hg).aft a, a⟩
theorem fok_nil : FOk [] := ⟨by simp, fun name => by simp [valsF, Lib.join]⟩
theorem fok_one (f : FieldL) (h : f.2.length ≤ 1000) : FOk [f] := by
  refine ⟨by simp, fun name => ?_⟩
  unfold valsF
  rw [List.filter_cons]
  split
  · rw [List.filter_nil, List.map_cons, List.map_nil, Lib.join_one]; omega
  · simp [Lib.join]
theorem rbF_none (w : World) : RbF w (.slice none 0 0) [] := Or.inl ⟨rfl, rfl⟩
theorem may_of (m : ByteArray) (vq vs : Value) (st : Int) (lq ls : List FieldL) (w : World) (hq : RbF w vq lq) (hs : RbF w vs ls) (kq : FOk lq) (ks : FOk ls) (b : Bool) (hb : mayF (m.data.toList == [71, 69, 84]) st lq ls = b) :
    Calls Try.prog 22 #[.agg #[.string m, .string ⟨#[]⟩, .string ⟨#[]⟩, .string ⟨#[]⟩, vq, .int .i64 0], .agg #[.int .i64 st, vs, .int .i64 0]] w fun e w' => e = .returned (.bool b) ∧ Aft w w' := by
  subst hb
  exact may_any m _ _ _ vq vs 0 0 st lq ls w hq hs kq ks

structure KH (G G3 gL : Nat) (w : World) : Prop where
  q1 : C6 w G (.string ⟨#[71, 69, 84]⟩) (.string ⟨#[]⟩) (.string ⟨#[]⟩) (.string ⟨#[]⟩) (.slice none 0 0) (.int .i64 0)
  q2 : C6 w (G + 1) (.string ⟨#[80, 79, 83, 84]⟩) (.string ⟨#[]⟩) (.string ⟨#[]⟩) (.string ⟨#[]⟩) (.slice none 0 0) (.int .i64 0)
  q3 : C6 w G3 (.string ⟨#[71, 69, 84]⟩) (.string ⟨#[]⟩) (.string ⟨#[]⟩) (.string ⟨#[]⟩) (.slice (some ⟨gL, 0, none⟩) 1 1) (.int .i64 0)
  rl : RbF w (.slice (some ⟨gL, 0, none⟩) 1 1) [((⟨#[97, 117, 116, 104, 111, 114, 105, 122, 97, 116, 105, 111, 110]⟩ : ByteArray).data.toList, (⟨#[120]⟩ : ByteArray).data.toList)]
theorem KH.aft {G G3 gL : Nat} {w w' : World} (h : KH G G3 gL w) (ha : Aft w w') : KH G G3 gL w' := ⟨h.q1.aft ha, h.q2.aft ha, h.q3.aft ha, h.rl.aft ha⟩

set_option maxHeartbeats 16000000 in
set_option maxRecDepth 100000 in
theorem keepruns_any (w : World) : Calls Try.prog 18 #[] w fun e w' => e = .returned (.bool true) ∧ Aft w w' := by
  have h1 : C6 ((w.alloc (.cells #[.string ⟨#[71, 69, 84]⟩, .string ⟨#[]⟩, .string ⟨#[]⟩, .string ⟨#[]⟩, .slice none 0 0, .int .i64 0] 42)).alloc (.cells #[.string ⟨#[80, 79, 83, 84]⟩, .string ⟨#[]⟩, .string ⟨#[]⟩, .string ⟨#[]⟩, .slice none 0 0, .int .i64 0] 42)) w.heap.size (.string ⟨#[71, 69, 84]⟩) (.string ⟨#[]⟩) (.string ⟨#[]⟩) (.string ⟨#[]⟩) (.slice none 0 0) (.int .i64 0) := C6.aft (heap_alloc_new w _) ((Aft.refl _).alloc _)
  have h2 : C6 ((w.alloc (.cells #[.string ⟨#[71, 69, 84]⟩, .string ⟨#[]⟩, .string ⟨#[]⟩, .string ⟨#[]⟩, .slice none 0 0, .int .i64 0] 42)).alloc (.cells #[.string ⟨#[80, 79, 83, 84]⟩, .string ⟨#[]⟩, .string ⟨#[]⟩, .string ⟨#[]⟩, .slice none 0 0, .int .i64 0] 42)) (w.heap.size + 1) (.string ⟨#[80, 79, 83, 84]⟩) (.string ⟨#[]⟩) (.string ⟨#[]⟩) (.string ⟨#[]⟩) (.slice none 0 0) (.int .i64 0) := by
    have := heap_alloc_new (w.alloc (.cells #[.string ⟨#[71, 69, 84]⟩, .string ⟨#[]⟩, .string ⟨#[]⟩, .string ⟨#[]⟩, .slice none 0 0, .int .i64 0] 42)) (.cells #[.string ⟨#[80, 79, 83, 84]⟩, .string ⟨#[]⟩, .string ⟨#[]⟩, .string ⟨#[]⟩, .slice none 0 0, .int .i64 0] 42)
    rw [World.size_alloc] at this
    exact this
  have hA : Aft w ((w.alloc (.cells #[.string ⟨#[71, 69, 84]⟩, .string ⟨#[]⟩, .string ⟨#[]⟩, .string ⟨#[]⟩, .slice none 0 0, .int .i64 0] 42)).alloc (.cells #[.string ⟨#[80, 79, 83, 84]⟩, .string ⟨#[]⟩, .string ⟨#[]⟩, .string ⟨#[]⟩, .slice none 0 0, .int .i64 0] 42)) := ((Aft.refl w).alloc _).alloc _
  have H1 := Lib.hid h1
  have H2 := Lib.hid h2
  have HA := Lib.hid hA
  clear h1 h2 hA
  go_enter Try.func18, Try.ntmps18
  go_wp2_with fail
  generalize w.heap.size = G at H1 H2 ⊢
  generalize (w.alloc (.cells #[.string ⟨#[71, 69, 84]⟩, .string ⟨#[]⟩, .string ⟨#[]⟩, .string ⟨#[]⟩, .slice none 0 0, .int .i64 0] 42)).alloc (.cells #[.string ⟨#[80, 79, 83, 84]⟩, .string ⟨#[]⟩, .string ⟨#[]⟩, .string ⟨#[]⟩, .slice none 0 0, .int .i64 0] 42) = W0 at H1 H2 HA ⊢
  refine (of18_any _ _ _).mono ?_
  rintro e w1 ⟨rfl, a1⟩
  have h1 := H1.out.aft a1
  have h2 := H2.out.aft a1
  have hA := HA.out.trans a1
  have hl := rbF_new ⟨#[97, 117, 116, 104, 111, 114, 105, 122, 97, 116, 105, 111, 110]⟩ ⟨#[120]⟩ w1 _ w1.heap.size (Aft.refl _) rfl
  have hlA : Aft w1 (w1.alloc (.cells #[.string ⟨#[97, 117, 116, 104, 111, 114, 105, 122, 97, 116, 105, 111, 110]⟩, .string ⟨#[120]⟩] 27)) := (Aft.refl _).alloc _
  have hs1 : (w1.alloc (.cells #[.string ⟨#[97, 117, 116, 104, 111, 114, 105, 122, 97, 116, 105, 111, 110]⟩, .string ⟨#[120]⟩] 27)).heap.size = w1.heap.size + 1 := World.size_alloc _ _
  have h3 : C6 ((w1.alloc (.cells #[.string ⟨#[97, 117, 116, 104, 111, 114, 105, 122, 97, 116, 105, 111, 110]⟩, .string ⟨#[120]⟩] 27)).alloc (.cells #[.string ⟨#[71, 69, 84]⟩, .string ⟨#[]⟩, .string ⟨#[]⟩, .string ⟨#[]⟩, .slice (some ⟨w1.heap.size, 0, none⟩) 1 1, .int .i64 0] 42)) (w1.heap.size + 1) (.string ⟨#[71, 69, 84]⟩) (.string ⟨#[]⟩) (.string ⟨#[]⟩) (.string ⟨#[]⟩) (.slice (some ⟨w1.heap.size, 0, none⟩) 1 1) (.int .i64 0) := by
    have := heap_alloc_new (w1.alloc (.cells #[.string ⟨#[97, 117, 116, 104, 111, 114, 105, 122, 97, 116, 105, 111, 110]⟩, .string ⟨#[120]⟩] 27)) (.cells #[.string ⟨#[71, 69, 84]⟩, .string ⟨#[]⟩, .string ⟨#[]⟩, .string ⟨#[]⟩, .slice (some ⟨w1.heap.size, 0, none⟩) 1 1, .int .i64 0] 42)
    rw [hs1] at this
    exact this
  have hH : KH G (w1.heap.size + 1) w1.heap.size ((w1.alloc (.cells #[.string ⟨#[97, 117, 116, 104, 111, 114, 105, 122, 97, 116, 105, 111, 110]⟩, .string ⟨#[120]⟩] 27)).alloc (.cells #[.string ⟨#[71, 69, 84]⟩, .string ⟨#[]⟩, .string ⟨#[]⟩, .string ⟨#[]⟩, .slice (some ⟨w1.heap.size, 0, none⟩) 1 1, .int .i64 0] 42)) := ⟨(h1.aft hlA).aft ((Aft.refl _).alloc _), (h2.aft hlA).aft ((Aft.refl _).alloc _), h3, hl.aft ((Aft.refl _).alloc _)⟩
  have hAA := (hA.trans hlA).alloc (.cells #[.string ⟨#[71, 69, 84]⟩, .string ⟨#[]⟩, .string ⟨#[]⟩, .string ⟨#[]⟩, .slice (some ⟨w1.heap.size, 0, none⟩) 1 1, .int .i64 0] 42)
  have HH := Lib.hid hH
  have HAA := Lib.hid hAA
  clear h1 h2 hA hl hlA hs1 h3 hH hAA a1 H1 H2 HA
  go_upto_region 4 with fail
  generalize (w1.alloc (.cells #[.string ⟨#[97, 117, 116, 104, 111, 114, 105, 122, 97, 116, 105, 111, 110]⟩, .string ⟨#[120]⟩] 27)).alloc (.cells #[.string ⟨#[71, 69, 84]⟩, .string ⟨#[]⟩, .string ⟨#[]⟩, .string ⟨#[]⟩, .slice (some ⟨w1.heap.size, 0, none⟩) 1 1, .int .i64 0] 42) = W at HH HAA ⊢
  generalize w1.heap.size = gL at HH ⊢
  have hH := HH.out
  have A5 := HAA.out.drew
  clear HH HAA
  refine wp_region_held_drew (S := KH G (gL + 1) gL) (by kernel_rfl) (KH.aft hH ((Aft.refl _).drew)) (fun hHeld => ?_)
  refine wpAnyH_take (i := 0) (oi := { dst := some 11, op := Go.Op.load 42 (Go.Operand.tmp 1), type := 42, pos := _, after := _, guard := _ }) (v := ?_) rfl (by kernel_rfl) (by kernel_rfl) (by kernel_rfl) (fun _ _ _ h => h) (Or.inl ⟨by rfl, ?_⟩) (by exact hHeld) ?_
  rotate_left
  · intro w hSw; obtain ⟨la0, la1, la2, la3, la4, la5⟩ := hSw.q1.cells; obtain ⟨lb0, lb1, lb2, lb3, lb4, lb5⟩ := hSw.q2.cells; obtain ⟨lc0, lc1, lc2, lc3, lc4, lc5⟩ := hSw.q3.cells; go_simp; try with_reducible rfl
  try simp only [Act.put]
  try simp only [List.setIfInBounds_toArray]
  try simp only [List.set]
  refine wpAnyH_take (i := 1) (oi := { dst := some 12, op := Go.Op.move (Go.Operand.tmp 4), type := 61, pos := _, after := _, guard := _ }) (v := ?_) rfl (by kernel_rfl) (by kernel_rfl) (by kernel_rfl) (fun _ _ _ h => h) (Or.inl ⟨by rfl, ?_⟩) (by exact hHeld) ?_
  rotate_left
  · intro w hSw; go_simp; try with_reducible rfl
  try simp only [Act.put]
  try simp only [List.setIfInBounds_toArray]
  try simp only [List.set]
  refine wpAnyH_ready (rs := [2]) (by kernel_rfl) (by simp) ?_
  refine AllReadyH.cons (o := { dst := some 13, op := Go.Op.call { callee := Go.Callee.value (Go.Operand.tmp 12), args := #[Go.Operand.const (Go.Value.int Go.IntKind.i64 200), Go.Operand.const (Go.Value.slice none 0 0)], argTypes := #[3, 22] }, type := 44, pos := _, after := _, guard := _ }) rfl (fun K hK => ?_) AllReadyH.nil
  go_simp
  go_at_call 32
  refine (say_any _ none 0 0 _).mono ?_
  rintro e w6 ⟨rfl, a6⟩
  have hS2 := KH.aft hHeld a6
  have A6 := Aft.trans A5 a6
  clear A5
  have A5 := A6
  clear A6 a6
  clear hHeld
  refine hK.out _ _ hS2 (fun hHeld => ?_)
  clear hK K hS2
  try simp only [Act.put]
  try simp only [List.setIfInBounds_toArray]
  try simp only [List.set]
  refine wpAnyH_ready (rs := [3]) (by kernel_rfl) (by simp) ?_
  refine AllReadyH.cons (o := { dst := some 14, op := Go.Op.call { callee := Go.Callee.value (Go.Operand.func 22), args := #[Go.Operand.tmp 11, Go.Operand.tmp 13], argTypes := #[42, 44] }, type := 4, pos := _, after := _, guard := _ }) rfl (fun K hK => ?_) AllReadyH.nil
  go_simp
  go_at_call 22
  refine (may_of ⟨#[71, 69, 84]⟩ (.slice none 0 0) (.slice none 0 0) 200 [] [] _ (rbF_none _) (rbF_none _) fok_nil fok_nil true (by kernel_rfl)).mono ?_
  rintro e w6 ⟨rfl, a6⟩
  have hS2 := KH.aft hHeld a6
  have A6 := Aft.trans A5 a6
  clear A5
  have A5 := A6
  clear A6 a6
  clear hHeld
  refine hK.out _ _ hS2 (fun hHeld => ?_)
  clear hK K hS2
  try simp only [Act.put]
  try simp only [List.setIfInBounds_toArray]
  try simp only [List.set]
  refine wpAnyH_take (i := 4) (oi := { dst := some 15, op := Go.Op.move (Go.Operand.tmp 14), type := 4, pos := _, after := _, guard := _ }) (v := ?_) rfl (by kernel_rfl) (by kernel_rfl) (by kernel_rfl) (fun _ _ _ h => h) (Or.inl ⟨by rfl, ?_⟩) (by exact hHeld) ?_
  rotate_left
  · intro w hSw; go_simp; try with_reducible rfl
  try simp only [Act.put]
  try simp only [List.setIfInBounds_toArray]
  try simp only [List.set]
  refine wpAnyH_take (i := 5) (oi := { dst := some 16, op := Go.Op.load 42 (Go.Operand.tmp 2), type := 42, pos := _, after := _, guard := _ }) (v := ?_) rfl (by kernel_rfl) (by kernel_rfl) (by kernel_rfl) (fun _ _ _ h => h) (Or.inl ⟨by rfl, ?_⟩) (by exact hHeld) ?_
  rotate_left
  · intro w hSw; obtain ⟨la0, la1, la2, la3, la4, la5⟩ := hSw.q1.cells; obtain ⟨lb0, lb1, lb2, lb3, lb4, lb5⟩ := hSw.q2.cells; obtain ⟨lc0, lc1, lc2, lc3, lc4, lc5⟩ := hSw.q3.cells; go_simp; try with_reducible rfl
  try simp only [Act.put]
  try simp only [List.setIfInBounds_toArray]
  try simp only [List.set]
  refine wpAnyH_take (i := 6) (oi := { dst := some 17, op := Go.Op.move (Go.Operand.tmp 4), type := 61, pos := _, after := _, guard := _ }) (v := ?_) rfl (by kernel_rfl) (by kernel_rfl) (by kernel_rfl) (fun _ _ _ h => h) (Or.inl ⟨by rfl, ?_⟩) (by exact hHeld) ?_
  rotate_left
  · intro w hSw; go_simp; try with_reducible rfl
  try simp only [Act.put]
  try simp only [List.setIfInBounds_toArray]
  try simp only [List.set]
  refine wpAnyH_ready (rs := [7]) (by kernel_rfl) (by simp) ?_
  refine AllReadyH.cons (o := { dst := some 18, op := Go.Op.call { callee := Go.Callee.value (Go.Operand.tmp 17), args := #[Go.Operand.const (Go.Value.int Go.IntKind.i64 200), Go.Operand.const (Go.Value.slice none 0 0)], argTypes := #[3, 22] }, type := 44, pos := _, after := _, guard := _ }) rfl (fun K hK => ?_) AllReadyH.nil
  go_simp
  go_at_call 32
  refine (say_any _ none 0 0 _).mono ?_
  rintro e w6 ⟨rfl, a6⟩
  have hS2 := KH.aft hHeld a6
  have A6 := Aft.trans A5 a6
  clear A5
  have A5 := A6
  clear A6 a6
  clear hHeld
  refine hK.out _ _ hS2 (fun hHeld => ?_)
  clear hK K hS2
  try simp only [Act.put]
  try simp only [List.setIfInBounds_toArray]
  try simp only [List.set]
  refine wpAnyH_ready (rs := [8]) (by kernel_rfl) (by simp) ?_
  refine AllReadyH.cons (o := { dst := some 19, op := Go.Op.call { callee := Go.Callee.value (Go.Operand.func 22), args := #[Go.Operand.tmp 16, Go.Operand.tmp 18], argTypes := #[42, 44] }, type := 4, pos := _, after := _, guard := _ }) rfl (fun K hK => ?_) AllReadyH.nil
  go_simp
  go_at_call 22
  refine (may_of ⟨#[80, 79, 83, 84]⟩ (.slice none 0 0) (.slice none 0 0) 200 [] [] _ (rbF_none _) (rbF_none _) fok_nil fok_nil false (by kernel_rfl)).mono ?_
  rintro e w6 ⟨rfl, a6⟩
  have hS2 := KH.aft hHeld a6
  have A6 := Aft.trans A5 a6
  clear A5
  have A5 := A6
  clear A6 a6
  clear hHeld
  refine hK.out _ _ hS2 (fun hHeld => ?_)
  clear hK K hS2
  try simp only [Act.put]
  try simp only [List.setIfInBounds_toArray]
  try simp only [List.set]
  refine wpAnyH_take (i := 9) (oi := { dst := some 20, op := Go.Op.unOp Go.UnOp.not 4 (Go.Operand.tmp 19), type := 4, pos := _, after := _, guard := _ }) (v := ?_) rfl (by kernel_rfl) (by kernel_rfl) (by kernel_rfl) (fun _ _ _ h => h) (Or.inl ⟨by rfl, ?_⟩) (by exact hHeld) ?_
  rotate_left
  · intro w hSw; go_simp; try with_reducible rfl
  try simp only [Act.put]
  try simp only [List.setIfInBounds_toArray]
  try simp only [List.set]
  refine wpAnyH_take (i := 10) (oi := { dst := some 21, op := Go.Op.pick (Go.Operand.tmp 15) (Go.Operand.tmp 20) (Go.Operand.const (Go.Value.bool false)), type := 4, pos := _, after := _, guard := _ }) (v := ?_) rfl (by kernel_rfl) (by kernel_rfl) (by kernel_rfl) (fun _ _ _ h => h) (Or.inl ⟨by rfl, ?_⟩) (by exact hHeld) ?_
  rotate_left
  · intro w hSw; go_simp; try with_reducible rfl
  try simp only [Act.put]
  try simp only [List.setIfInBounds_toArray]
  try simp only [List.set]
  refine wpAnyH_take (i := 11) (oi := { dst := some 22, op := Go.Op.move (Go.Operand.tmp 21), type := 4, pos := _, after := _, guard := _ }) (v := ?_) rfl (by kernel_rfl) (by kernel_rfl) (by kernel_rfl) (fun _ _ _ h => h) (Or.inl ⟨by rfl, ?_⟩) (by exact hHeld) ?_
  rotate_left
  · intro w hSw; go_simp; try with_reducible rfl
  try simp only [Act.put]
  try simp only [List.setIfInBounds_toArray]
  try simp only [List.set]
  refine wpAnyH_take (i := 12) (oi := { dst := some 23, op := Go.Op.load 42 (Go.Operand.tmp 1), type := 42, pos := _, after := _, guard := _ }) (v := ?_) rfl (by kernel_rfl) (by kernel_rfl) (by kernel_rfl) (fun _ _ _ h => h) (Or.inl ⟨by rfl, ?_⟩) (by exact hHeld) ?_
  rotate_left
  · intro w hSw; obtain ⟨la0, la1, la2, la3, la4, la5⟩ := hSw.q1.cells; obtain ⟨lb0, lb1, lb2, lb3, lb4, lb5⟩ := hSw.q2.cells; obtain ⟨lc0, lc1, lc2, lc3, lc4, lc5⟩ := hSw.q3.cells; go_simp; try with_reducible rfl
  try simp only [Act.put]
  try simp only [List.setIfInBounds_toArray]
  try simp only [List.set]
  refine wpAnyH_take (i := 13) (oi := { dst := some 24, op := Go.Op.move (Go.Operand.tmp 4), type := 61, pos := _, after := _, guard := _ }) (v := ?_) rfl (by kernel_rfl) (by kernel_rfl) (by kernel_rfl) (fun _ _ _ h => h) (Or.inl ⟨by rfl, ?_⟩) (by exact hHeld) ?_
  rotate_left
  · intro w hSw; go_simp; try with_reducible rfl
  try simp only [Act.put]
  try simp only [List.setIfInBounds_toArray]
  try simp only [List.set]
  refine wpAnyH_ready (rs := [14]) (by kernel_rfl) (by simp) ?_
  refine AllReadyH.cons (o := { dst := some 25, op := Go.Op.call { callee := Go.Callee.value (Go.Operand.tmp 24), args := #[Go.Operand.const (Go.Value.int Go.IntKind.i64 302), Go.Operand.const (Go.Value.slice none 0 0)], argTypes := #[3, 22] }, type := 44, pos := _, after := _, guard := _ }) rfl (fun K hK => ?_) AllReadyH.nil
  go_simp
  go_at_call 32
  refine (say_any _ none 0 0 _).mono ?_
  rintro e w6 ⟨rfl, a6⟩
  have hS2 := KH.aft hHeld a6
  have A6 := Aft.trans A5 a6
  clear A5
  have A5 := A6
  clear A6 a6
  clear hHeld
  refine hK.out _ _ hS2 (fun hHeld => ?_)
  clear hK K hS2
  try simp only [Act.put]
  try simp only [List.setIfInBounds_toArray]
  try simp only [List.set]
  refine wpAnyH_ready (rs := [15]) (by kernel_rfl) (by simp) ?_
  refine AllReadyH.cons (o := { dst := some 26, op := Go.Op.call { callee := Go.Callee.value (Go.Operand.func 22), args := #[Go.Operand.tmp 23, Go.Operand.tmp 25], argTypes := #[42, 44] }, type := 4, pos := _, after := _, guard := _ }) rfl (fun K hK => ?_) AllReadyH.nil
  go_simp
  go_at_call 22
  refine (may_of ⟨#[71, 69, 84]⟩ (.slice none 0 0) (.slice none 0 0) 302 [] [] _ (rbF_none _) (rbF_none _) fok_nil fok_nil false (by kernel_rfl)).mono ?_
  rintro e w6 ⟨rfl, a6⟩
  have hS2 := KH.aft hHeld a6
  have A6 := Aft.trans A5 a6
  clear A5
  have A5 := A6
  clear A6 a6
  clear hHeld
  refine hK.out _ _ hS2 (fun hHeld => ?_)
  clear hK K hS2
  try simp only [Act.put]
  try simp only [List.setIfInBounds_toArray]
  try simp only [List.set]
  refine wpAnyH_take (i := 16) (oi := { dst := some 27, op := Go.Op.unOp Go.UnOp.not 4 (Go.Operand.tmp 26), type := 4, pos := _, after := _, guard := _ }) (v := ?_) rfl (by kernel_rfl) (by kernel_rfl) (by kernel_rfl) (fun _ _ _ h => h) (Or.inl ⟨by rfl, ?_⟩) (by exact hHeld) ?_
  rotate_left
  · intro w hSw; go_simp; try with_reducible rfl
  try simp only [Act.put]
  try simp only [List.setIfInBounds_toArray]
  try simp only [List.set]
  refine wpAnyH_take (i := 17) (oi := { dst := some 28, op := Go.Op.pick (Go.Operand.tmp 22) (Go.Operand.tmp 27) (Go.Operand.const (Go.Value.bool false)), type := 4, pos := _, after := _, guard := _ }) (v := ?_) rfl (by kernel_rfl) (by kernel_rfl) (by kernel_rfl) (fun _ _ _ h => h) (Or.inl ⟨by rfl, ?_⟩) (by exact hHeld) ?_
  rotate_left
  · intro w hSw; go_simp; try with_reducible rfl
  try simp only [Act.put]
  try simp only [List.setIfInBounds_toArray]
  try simp only [List.set]
  refine wpAnyH_take (i := 18) (oi := { dst := some 29, op := Go.Op.move (Go.Operand.tmp 28), type := 4, pos := _, after := _, guard := _ }) (v := ?_) rfl (by kernel_rfl) (by kernel_rfl) (by kernel_rfl) (fun _ _ _ h => h) (Or.inl ⟨by rfl, ?_⟩) (by exact hHeld) ?_
  rotate_left
  · intro w hSw; go_simp; try with_reducible rfl
  try simp only [Act.put]
  try simp only [List.setIfInBounds_toArray]
  try simp only [List.set]
  refine wpAnyH_take (i := 19) (oi := { dst := some 30, op := Go.Op.load 42 (Go.Operand.tmp 1), type := 42, pos := _, after := _, guard := _ }) (v := ?_) rfl (by kernel_rfl) (by kernel_rfl) (by kernel_rfl) (fun _ _ _ h => h) (Or.inl ⟨by rfl, ?_⟩) (by exact hHeld) ?_
  rotate_left
  · intro w hSw; obtain ⟨la0, la1, la2, la3, la4, la5⟩ := hSw.q1.cells; obtain ⟨lb0, lb1, lb2, lb3, lb4, lb5⟩ := hSw.q2.cells; obtain ⟨lc0, lc1, lc2, lc3, lc4, lc5⟩ := hSw.q3.cells; go_simp; try with_reducible rfl
  try simp only [Act.put]
  try simp only [List.setIfInBounds_toArray]
  try simp only [List.set]
  refine wpAnyH_take (i := 20) (oi := { dst := some 31, op := Go.Op.move (Go.Operand.tmp 4), type := 61, pos := _, after := _, guard := _ }) (v := ?_) rfl (by kernel_rfl) (by kernel_rfl) (by kernel_rfl) (fun _ _ _ h => h) (Or.inl ⟨by rfl, ?_⟩) (by exact hHeld) ?_
  rotate_left
  · intro w hSw; go_simp; try with_reducible rfl
  try simp only [Act.put]
  try simp only [List.setIfInBounds_toArray]
  try simp only [List.set]
  refine wpAnyH_ready (rs := [21]) (by kernel_rfl) (by simp) ?_
  refine AllReadyH.cons (o := { dst := some 32, op := Go.Op.call { callee := Go.Callee.value (Go.Operand.func 20), args := #[Go.Operand.const (Go.Value.string { data := #[99, 97, 99, 104, 101, 45, 99, 111, 110, 116, 114, 111, 108] }), Go.Operand.const (Go.Value.string { data := #[109, 97, 120, 45, 97, 103, 101, 61, 53] })], argTypes := #[9, 9] }, type := 27, pos := _, after := _, guard := _ }) rfl (fun K hK => ?_) AllReadyH.nil
  go_simp
  go_at_call 20
  refine (of18_any _ _ _).mono ?_
  rintro e w6 ⟨rfl, a6⟩
  have hS2 := KH.aft hHeld a6
  have A6 := Aft.trans A5 a6
  clear A5
  have A5 := A6
  clear A6 a6
  clear hHeld
  refine hK.out _ _ hS2 (fun hHeld => ?_)
  clear hK K hS2
  try simp only [Act.put]
  try simp only [List.setIfInBounds_toArray]
  try simp only [List.set]
  refine wpAnyH_ready (rs := [22]) (by kernel_rfl) (by simp) ?_
  refine AllReadyH.cons (o := { dst := some 33, op := Go.Op.buildSlice 22 1 #[(0, Go.Operand.tmp 32)], type := 22, pos := _, after := _, guard := _ }) rfl (fun K hK => ?_) AllReadyH.nil
  go_simp
  have hS2 := KH.aft hHeld ((Aft.refl _).alloc (.cells #[.string ⟨#[99, 97, 99, 104, 101, 45, 99, 111, 110, 116, 114, 111, 108]⟩, .string ⟨#[109, 97, 120, 45, 97, 103, 101, 61, 53]⟩] 27))
  have A6 := A5.alloc (.cells #[.string ⟨#[99, 97, 99, 104, 101, 45, 99, 111, 110, 116, 114, 111, 108]⟩, .string ⟨#[109, 97, 120, 45, 97, 103, 101, 61, 53]⟩] 27)
  clear A5
  have A5 := A6
  clear A6
  clear hHeld
  refine hK.out _ _ hS2 (fun hHeld => ?_)
  clear hK K hS2
  try simp only [Act.put]
  try simp only [List.setIfInBounds_toArray]
  try simp only [List.set]
  refine wpAnyH_ready (rs := [23]) (by kernel_rfl) (by simp) ?_
  refine AllReadyH.cons (o := { dst := some 34, op := Go.Op.call { callee := Go.Callee.value (Go.Operand.tmp 31), args := #[Go.Operand.const (Go.Value.int Go.IntKind.i64 302), Go.Operand.tmp 33], argTypes := #[3, 22] }, type := 44, pos := _, after := _, guard := _ }) rfl (fun K hK => ?_) AllReadyH.nil
  go_simp
  go_at_call 32
  refine (say_f ?W0k1 ⟨#[99, 97, 99, 104, 101, 45, 99, 111, 110, 116, 114, 111, 108]⟩ ⟨#[109, 97, 120, 45, 97, 103, 101, 61, 53]⟩ _ _ _ ?hak1 ?hgk1).mono ?kkk1
  case hak1 => first | exact Aft.refl _ | exact (Aft.refl _).drew
  case hgk1 => rfl
  rintro e w6 ⟨rfl, hRb, a6⟩
  have hS2 := KH.aft hHeld a6
  have A6 := Aft.trans A5 a6
  clear A5
  have A5 := A6
  clear A6 a6
  clear hHeld
  refine hK.out _ _ hS2 (fun hHeld => ?_)
  clear hK K hS2
  try simp only [Act.put]
  try simp only [List.setIfInBounds_toArray]
  try simp only [List.set]
  refine wpAnyH_ready (rs := [24]) (by kernel_rfl) (by simp) ?_
  refine AllReadyH.cons (o := { dst := some 35, op := Go.Op.call { callee := Go.Callee.value (Go.Operand.func 22), args := #[Go.Operand.tmp 30, Go.Operand.tmp 34], argTypes := #[42, 44] }, type := 4, pos := _, after := _, guard := _ }) rfl (fun K hK => ?_) AllReadyH.nil
  go_simp
  go_at_call 22
  refine (may_of ⟨#[71, 69, 84]⟩ (.slice none 0 0) _ 302 [] _ _ (rbF_none _) hRb fok_nil (fok_one _ (by decide)) true (by kernel_rfl)).mono ?_
  rintro e w6 ⟨rfl, a6⟩
  have hS2 := KH.aft hHeld a6
  have A6 := Aft.trans A5 a6
  clear A5
  have A5 := A6
  clear A6 a6
  clear hRb
  clear hHeld
  refine hK.out _ _ hS2 (fun hHeld => ?_)
  clear hK K hS2
  try simp only [Act.put]
  try simp only [List.setIfInBounds_toArray]
  try simp only [List.set]
  refine wpAnyH_take (i := 25) (oi := { dst := some 36, op := Go.Op.pick (Go.Operand.tmp 29) (Go.Operand.tmp 35) (Go.Operand.const (Go.Value.bool false)), type := 4, pos := _, after := _, guard := _ }) (v := ?_) rfl (by kernel_rfl) (by kernel_rfl) (by kernel_rfl) (fun _ _ _ h => h) (Or.inl ⟨by rfl, ?_⟩) (by exact hHeld) ?_
  rotate_left
  · intro w hSw; go_simp; try with_reducible rfl
  try simp only [Act.put]
  try simp only [List.setIfInBounds_toArray]
  try simp only [List.set]
  refine wpAnyH_take (i := 26) (oi := { dst := some 5, op := Go.Op.assign (Go.Operand.tmp 36), type := 4, pos := _, after := _, guard := _ }) (v := ?_) rfl (by kernel_rfl) (by kernel_rfl) (by kernel_rfl) (fun _ _ _ h => h) (Or.inl ⟨by rfl, ?_⟩) (by exact hHeld) ?_
  rotate_left
  · intro w hSw; go_simp; try with_reducible rfl
  try simp only [Act.put]
  try simp only [List.setIfInBounds_toArray]
  try simp only [List.set]
  refine wpAnyH_done (by kernel_rfl) ?_ _
  go_upto_region 5 with fail
  have hH2 := hHeld
  clear hHeld hH
  have A6 := A5.drew
  clear A5
  have A5 := A6
  clear A6
  refine wp_region_held_drew (S := KH G (gL + 1) gL) (by kernel_rfl) (KH.aft hH2 ((Aft.refl _).drew)) (fun hHeld => ?_)
  refine wpAnyH_take (i := 0) (oi := { dst := some 37, op := Go.Op.move (Go.Operand.tmp 5), type := 4, pos := _, after := _, guard := _ }) (v := ?_) rfl (by kernel_rfl) (by kernel_rfl) (by kernel_rfl) (fun _ _ _ h => h) (Or.inl ⟨by rfl, ?_⟩) (by exact hHeld) ?_
  rotate_left
  · intro w hSw; go_simp; try with_reducible rfl
  try simp only [Act.put]
  try simp only [List.setIfInBounds_toArray]
  try simp only [List.set]
  refine wpAnyH_take (i := 1) (oi := { dst := some 38, op := Go.Op.move (Go.Operand.tmp 37), type := 4, pos := _, after := _, guard := _ }) (v := ?_) rfl (by kernel_rfl) (by kernel_rfl) (by kernel_rfl) (fun _ _ _ h => h) (Or.inl ⟨by rfl, ?_⟩) (by exact hHeld) ?_
  rotate_left
  · intro w hSw; go_simp; try with_reducible rfl
  try simp only [Act.put]
  try simp only [List.setIfInBounds_toArray]
  try simp only [List.set]
  refine wpAnyH_take (i := 2) (oi := { dst := some 39, op := Go.Op.load 42 (Go.Operand.tmp 3), type := 42, pos := _, after := _, guard := _ }) (v := ?_) rfl (by kernel_rfl) (by kernel_rfl) (by kernel_rfl) (fun _ _ _ h => h) (Or.inl ⟨by rfl, ?_⟩) (by exact hHeld) ?_
  rotate_left
  · intro w hSw; obtain ⟨la0, la1, la2, la3, la4, la5⟩ := hSw.q1.cells; obtain ⟨lb0, lb1, lb2, lb3, lb4, lb5⟩ := hSw.q2.cells; obtain ⟨lc0, lc1, lc2, lc3, lc4, lc5⟩ := hSw.q3.cells; go_simp; try with_reducible rfl
  try simp only [Act.put]
  try simp only [List.setIfInBounds_toArray]
  try simp only [List.set]
  refine wpAnyH_take (i := 3) (oi := { dst := some 40, op := Go.Op.move (Go.Operand.tmp 4), type := 61, pos := _, after := _, guard := _ }) (v := ?_) rfl (by kernel_rfl) (by kernel_rfl) (by kernel_rfl) (fun _ _ _ h => h) (Or.inl ⟨by rfl, ?_⟩) (by exact hHeld) ?_
  rotate_left
  · intro w hSw; go_simp; try with_reducible rfl
  try simp only [Act.put]
  try simp only [List.setIfInBounds_toArray]
  try simp only [List.set]
  refine wpAnyH_ready (rs := [4]) (by kernel_rfl) (by simp) ?_
  refine AllReadyH.cons (o := { dst := some 41, op := Go.Op.call { callee := Go.Callee.value (Go.Operand.tmp 40), args := #[Go.Operand.const (Go.Value.int Go.IntKind.i64 200), Go.Operand.const (Go.Value.slice none 0 0)], argTypes := #[3, 22] }, type := 44, pos := _, after := _, guard := _ }) rfl (fun K hK => ?_) AllReadyH.nil
  go_simp
  go_at_call 32
  refine (say_any _ none 0 0 _).mono ?_
  rintro e w6 ⟨rfl, a6⟩
  have hS2 := KH.aft hHeld a6
  have A6 := Aft.trans A5 a6
  clear A5
  have A5 := A6
  clear A6 a6
  clear hHeld
  refine hK.out _ _ hS2 (fun hHeld => ?_)
  clear hK K hS2
  try simp only [Act.put]
  try simp only [List.setIfInBounds_toArray]
  try simp only [List.set]
  refine wpAnyH_ready (rs := [5]) (by kernel_rfl) (by simp) ?_
  refine AllReadyH.cons (o := { dst := some 42, op := Go.Op.call { callee := Go.Callee.value (Go.Operand.func 22), args := #[Go.Operand.tmp 39, Go.Operand.tmp 41], argTypes := #[42, 44] }, type := 4, pos := _, after := _, guard := _ }) rfl (fun K hK => ?_) AllReadyH.nil
  go_simp
  go_at_call 22
  refine (may_of ⟨#[71, 69, 84]⟩ (.slice (some ⟨gL, 0, none⟩) 1 1) (.slice none 0 0) 200 _ [] _ hHeld.rl (rbF_none _) (fok_one _ (by decide)) fok_nil false (by kernel_rfl)).mono ?_
  rintro e w6 ⟨rfl, a6⟩
  have hS2 := KH.aft hHeld a6
  have A6 := Aft.trans A5 a6
  clear A5
  have A5 := A6
  clear A6 a6
  clear hHeld
  refine hK.out _ _ hS2 (fun hHeld => ?_)
  clear hK K hS2
  try simp only [Act.put]
  try simp only [List.setIfInBounds_toArray]
  try simp only [List.set]
  refine wpAnyH_take (i := 6) (oi := { dst := some 43, op := Go.Op.unOp Go.UnOp.not 4 (Go.Operand.tmp 42), type := 4, pos := _, after := _, guard := _ }) (v := ?_) rfl (by kernel_rfl) (by kernel_rfl) (by kernel_rfl) (fun _ _ _ h => h) (Or.inl ⟨by rfl, ?_⟩) (by exact hHeld) ?_
  rotate_left
  · intro w hSw; go_simp; try with_reducible rfl
  try simp only [Act.put]
  try simp only [List.setIfInBounds_toArray]
  try simp only [List.set]
  refine wpAnyH_take (i := 7) (oi := { dst := some 44, op := Go.Op.pick (Go.Operand.tmp 38) (Go.Operand.tmp 43) (Go.Operand.const (Go.Value.bool false)), type := 4, pos := _, after := _, guard := _ }) (v := ?_) rfl (by kernel_rfl) (by kernel_rfl) (by kernel_rfl) (fun _ _ _ h => h) (Or.inl ⟨by rfl, ?_⟩) (by exact hHeld) ?_
  rotate_left
  · intro w hSw; go_simp; try with_reducible rfl
  try simp only [Act.put]
  try simp only [List.setIfInBounds_toArray]
  try simp only [List.set]
  refine wpAnyH_take (i := 8) (oi := { dst := some 45, op := Go.Op.move (Go.Operand.tmp 44), type := 4, pos := _, after := _, guard := _ }) (v := ?_) rfl (by kernel_rfl) (by kernel_rfl) (by kernel_rfl) (fun _ _ _ h => h) (Or.inl ⟨by rfl, ?_⟩) (by exact hHeld) ?_
  rotate_left
  · intro w hSw; go_simp; try with_reducible rfl
  try simp only [Act.put]
  try simp only [List.setIfInBounds_toArray]
  try simp only [List.set]
  refine wpAnyH_take (i := 9) (oi := { dst := some 46, op := Go.Op.load 42 (Go.Operand.tmp 3), type := 42, pos := _, after := _, guard := _ }) (v := ?_) rfl (by kernel_rfl) (by kernel_rfl) (by kernel_rfl) (fun _ _ _ h => h) (Or.inl ⟨by rfl, ?_⟩) (by exact hHeld) ?_
  rotate_left
  · intro w hSw; obtain ⟨la0, la1, la2, la3, la4, la5⟩ := hSw.q1.cells; obtain ⟨lb0, lb1, lb2, lb3, lb4, lb5⟩ := hSw.q2.cells; obtain ⟨lc0, lc1, lc2, lc3, lc4, lc5⟩ := hSw.q3.cells; go_simp; try with_reducible rfl
  try simp only [Act.put]
  try simp only [List.setIfInBounds_toArray]
  try simp only [List.set]
  refine wpAnyH_take (i := 10) (oi := { dst := some 47, op := Go.Op.move (Go.Operand.tmp 4), type := 61, pos := _, after := _, guard := _ }) (v := ?_) rfl (by kernel_rfl) (by kernel_rfl) (by kernel_rfl) (fun _ _ _ h => h) (Or.inl ⟨by rfl, ?_⟩) (by exact hHeld) ?_
  rotate_left
  · intro w hSw; go_simp; try with_reducible rfl
  try simp only [Act.put]
  try simp only [List.setIfInBounds_toArray]
  try simp only [List.set]
  refine wpAnyH_ready (rs := [11]) (by kernel_rfl) (by simp) ?_
  refine AllReadyH.cons (o := { dst := some 48, op := Go.Op.call { callee := Go.Callee.value (Go.Operand.func 20), args := #[Go.Operand.const (Go.Value.string { data := #[99, 97, 99, 104, 101, 45, 99, 111, 110, 116, 114, 111, 108] }), Go.Operand.const (Go.Value.string { data := #[112, 117, 98, 108, 105, 99] })], argTypes := #[9, 9] }, type := 27, pos := _, after := _, guard := _ }) rfl (fun K hK => ?_) AllReadyH.nil
  go_simp
  go_at_call 20
  refine (of18_any _ _ _).mono ?_
  rintro e w6 ⟨rfl, a6⟩
  have hS2 := KH.aft hHeld a6
  have A6 := Aft.trans A5 a6
  clear A5
  have A5 := A6
  clear A6 a6
  clear hHeld
  refine hK.out _ _ hS2 (fun hHeld => ?_)
  clear hK K hS2
  try simp only [Act.put]
  try simp only [List.setIfInBounds_toArray]
  try simp only [List.set]
  refine wpAnyH_ready (rs := [12]) (by kernel_rfl) (by simp) ?_
  refine AllReadyH.cons (o := { dst := some 49, op := Go.Op.buildSlice 22 1 #[(0, Go.Operand.tmp 48)], type := 22, pos := _, after := _, guard := _ }) rfl (fun K hK => ?_) AllReadyH.nil
  go_simp
  have hS2 := KH.aft hHeld ((Aft.refl _).alloc (.cells #[.string ⟨#[99, 97, 99, 104, 101, 45, 99, 111, 110, 116, 114, 111, 108]⟩, .string ⟨#[112, 117, 98, 108, 105, 99]⟩] 27))
  have A6 := A5.alloc (.cells #[.string ⟨#[99, 97, 99, 104, 101, 45, 99, 111, 110, 116, 114, 111, 108]⟩, .string ⟨#[112, 117, 98, 108, 105, 99]⟩] 27)
  clear A5
  have A5 := A6
  clear A6
  clear hHeld
  refine hK.out _ _ hS2 (fun hHeld => ?_)
  clear hK K hS2
  try simp only [Act.put]
  try simp only [List.setIfInBounds_toArray]
  try simp only [List.set]
  refine wpAnyH_ready (rs := [13]) (by kernel_rfl) (by simp) ?_
  refine AllReadyH.cons (o := { dst := some 50, op := Go.Op.call { callee := Go.Callee.value (Go.Operand.tmp 47), args := #[Go.Operand.const (Go.Value.int Go.IntKind.i64 200), Go.Operand.tmp 49], argTypes := #[3, 22] }, type := 44, pos := _, after := _, guard := _ }) rfl (fun K hK => ?_) AllReadyH.nil
  go_simp
  go_at_call 32
  refine (say_f ?W0k2 ⟨#[99, 97, 99, 104, 101, 45, 99, 111, 110, 116, 114, 111, 108]⟩ ⟨#[112, 117, 98, 108, 105, 99]⟩ _ _ _ ?hak2 ?hgk2).mono ?kkk2
  case hak2 => first | exact Aft.refl _ | exact (Aft.refl _).drew
  case hgk2 => rfl
  rintro e w6 ⟨rfl, hRb, a6⟩
  have hS2 := KH.aft hHeld a6
  have A6 := Aft.trans A5 a6
  clear A5
  have A5 := A6
  clear A6 a6
  clear hHeld
  refine hK.out _ _ hS2 (fun hHeld => ?_)
  clear hK K hS2
  try simp only [Act.put]
  try simp only [List.setIfInBounds_toArray]
  try simp only [List.set]
  refine wpAnyH_ready (rs := [14]) (by kernel_rfl) (by simp) ?_
  refine AllReadyH.cons (o := { dst := some 51, op := Go.Op.call { callee := Go.Callee.value (Go.Operand.func 22), args := #[Go.Operand.tmp 46, Go.Operand.tmp 50], argTypes := #[42, 44] }, type := 4, pos := _, after := _, guard := _ }) rfl (fun K hK => ?_) AllReadyH.nil
  go_simp
  go_at_call 22
  refine (may_of ⟨#[71, 69, 84]⟩ (.slice (some ⟨gL, 0, none⟩) 1 1) _ 200 _ _ _ hHeld.rl hRb (fok_one _ (by decide)) (fok_one _ (by decide)) true (by kernel_rfl)).mono ?_
  rintro e w6 ⟨rfl, a6⟩
  have hS2 := KH.aft hHeld a6
  have A6 := Aft.trans A5 a6
  clear A5
  have A5 := A6
  clear A6 a6
  clear hRb
  clear hHeld
  refine hK.out _ _ hS2 (fun hHeld => ?_)
  clear hK K hS2
  try simp only [Act.put]
  try simp only [List.setIfInBounds_toArray]
  try simp only [List.set]
  refine wpAnyH_take (i := 15) (oi := { dst := some 52, op := Go.Op.pick (Go.Operand.tmp 45) (Go.Operand.tmp 51) (Go.Operand.const (Go.Value.bool false)), type := 4, pos := _, after := _, guard := _ }) (v := ?_) rfl (by kernel_rfl) (by kernel_rfl) (by kernel_rfl) (fun _ _ _ h => h) (Or.inl ⟨by rfl, ?_⟩) (by exact hHeld) ?_
  rotate_left
  · intro w hSw; go_simp; try with_reducible rfl
  try simp only [Act.put]
  try simp only [List.setIfInBounds_toArray]
  try simp only [List.set]
  refine wpAnyH_take (i := 16) (oi := { dst := some 53, op := Go.Op.move (Go.Operand.tmp 52), type := 4, pos := _, after := _, guard := _ }) (v := ?_) rfl (by kernel_rfl) (by kernel_rfl) (by kernel_rfl) (fun _ _ _ h => h) (Or.inl ⟨by rfl, ?_⟩) (by exact hHeld) ?_
  rotate_left
  · intro w hSw; go_simp; try with_reducible rfl
  try simp only [Act.put]
  try simp only [List.setIfInBounds_toArray]
  try simp only [List.set]
  refine wpAnyH_take (i := 17) (oi := { dst := some 54, op := Go.Op.load 42 (Go.Operand.tmp 1), type := 42, pos := _, after := _, guard := _ }) (v := ?_) rfl (by kernel_rfl) (by kernel_rfl) (by kernel_rfl) (fun _ _ _ h => h) (Or.inl ⟨by rfl, ?_⟩) (by exact hHeld) ?_
  rotate_left
  · intro w hSw; obtain ⟨la0, la1, la2, la3, la4, la5⟩ := hSw.q1.cells; obtain ⟨lb0, lb1, lb2, lb3, lb4, lb5⟩ := hSw.q2.cells; obtain ⟨lc0, lc1, lc2, lc3, lc4, lc5⟩ := hSw.q3.cells; go_simp; try with_reducible rfl
  try simp only [Act.put]
  try simp only [List.setIfInBounds_toArray]
  try simp only [List.set]
  refine wpAnyH_take (i := 18) (oi := { dst := some 55, op := Go.Op.move (Go.Operand.tmp 4), type := 61, pos := _, after := _, guard := _ }) (v := ?_) rfl (by kernel_rfl) (by kernel_rfl) (by kernel_rfl) (fun _ _ _ h => h) (Or.inl ⟨by rfl, ?_⟩) (by exact hHeld) ?_
  rotate_left
  · intro w hSw; go_simp; try with_reducible rfl
  try simp only [Act.put]
  try simp only [List.setIfInBounds_toArray]
  try simp only [List.set]
  refine wpAnyH_ready (rs := [19]) (by kernel_rfl) (by simp) ?_
  refine AllReadyH.cons (o := { dst := some 56, op := Go.Op.call { callee := Go.Callee.value (Go.Operand.func 20), args := #[Go.Operand.const (Go.Value.string { data := #[118, 97, 114, 121] }), Go.Operand.const (Go.Value.string { data := #[42] })], argTypes := #[9, 9] }, type := 27, pos := _, after := _, guard := _ }) rfl (fun K hK => ?_) AllReadyH.nil
  go_simp
  go_at_call 20
  refine (of18_any _ _ _).mono ?_
  rintro e w6 ⟨rfl, a6⟩
  have hS2 := KH.aft hHeld a6
  have A6 := Aft.trans A5 a6
  clear A5
  have A5 := A6
  clear A6 a6
  clear hHeld
  refine hK.out _ _ hS2 (fun hHeld => ?_)
  clear hK K hS2
  try simp only [Act.put]
  try simp only [List.setIfInBounds_toArray]
  try simp only [List.set]
  refine wpAnyH_ready (rs := [20]) (by kernel_rfl) (by simp) ?_
  refine AllReadyH.cons (o := { dst := some 57, op := Go.Op.buildSlice 22 1 #[(0, Go.Operand.tmp 56)], type := 22, pos := _, after := _, guard := _ }) rfl (fun K hK => ?_) AllReadyH.nil
  go_simp
  have hS2 := KH.aft hHeld ((Aft.refl _).alloc (.cells #[.string ⟨#[118, 97, 114, 121]⟩, .string ⟨#[42]⟩] 27))
  have A6 := A5.alloc (.cells #[.string ⟨#[118, 97, 114, 121]⟩, .string ⟨#[42]⟩] 27)
  clear A5
  have A5 := A6
  clear A6
  clear hHeld
  refine hK.out _ _ hS2 (fun hHeld => ?_)
  clear hK K hS2
  try simp only [Act.put]
  try simp only [List.setIfInBounds_toArray]
  try simp only [List.set]
  refine wpAnyH_ready (rs := [21]) (by kernel_rfl) (by simp) ?_
  refine AllReadyH.cons (o := { dst := some 58, op := Go.Op.call { callee := Go.Callee.value (Go.Operand.tmp 55), args := #[Go.Operand.const (Go.Value.int Go.IntKind.i64 200), Go.Operand.tmp 57], argTypes := #[3, 22] }, type := 44, pos := _, after := _, guard := _ }) rfl (fun K hK => ?_) AllReadyH.nil
  go_simp
  go_at_call 32
  refine (say_f ?W0k3 ⟨#[118, 97, 114, 121]⟩ ⟨#[42]⟩ _ _ _ ?hak3 ?hgk3).mono ?kkk3
  case hak3 => first | exact Aft.refl _ | exact (Aft.refl _).drew
  case hgk3 => rfl
  rintro e w6 ⟨rfl, hRb, a6⟩
  have hS2 := KH.aft hHeld a6
  have A6 := Aft.trans A5 a6
  clear A5
  have A5 := A6
  clear A6 a6
  clear hHeld
  refine hK.out _ _ hS2 (fun hHeld => ?_)
  clear hK K hS2
  try simp only [Act.put]
  try simp only [List.setIfInBounds_toArray]
  try simp only [List.set]
  refine wpAnyH_ready (rs := [22]) (by kernel_rfl) (by simp) ?_
  refine AllReadyH.cons (o := { dst := some 59, op := Go.Op.call { callee := Go.Callee.value (Go.Operand.func 22), args := #[Go.Operand.tmp 54, Go.Operand.tmp 58], argTypes := #[42, 44] }, type := 4, pos := _, after := _, guard := _ }) rfl (fun K hK => ?_) AllReadyH.nil
  go_simp
  go_at_call 22
  refine (may_of ⟨#[71, 69, 84]⟩ (.slice none 0 0) _ 200 [] _ _ (rbF_none _) hRb fok_nil (fok_one _ (by decide)) false (by kernel_rfl)).mono ?_
  rintro e w6 ⟨rfl, a6⟩
  have hS2 := KH.aft hHeld a6
  have A6 := Aft.trans A5 a6
  clear A5
  have A5 := A6
  clear A6 a6
  clear hRb
  clear hHeld
  refine hK.out _ _ hS2 (fun hHeld => ?_)
  clear hK K hS2
  try simp only [Act.put]
  try simp only [List.setIfInBounds_toArray]
  try simp only [List.set]
  refine wpAnyH_take (i := 23) (oi := { dst := some 60, op := Go.Op.unOp Go.UnOp.not 4 (Go.Operand.tmp 59), type := 4, pos := _, after := _, guard := _ }) (v := ?_) rfl (by kernel_rfl) (by kernel_rfl) (by kernel_rfl) (fun _ _ _ h => h) (Or.inl ⟨by rfl, ?_⟩) (by exact hHeld) ?_
  rotate_left
  · intro w hSw; go_simp; try with_reducible rfl
  try simp only [Act.put]
  try simp only [List.setIfInBounds_toArray]
  try simp only [List.set]
  refine wpAnyH_take (i := 24) (oi := { dst := some 61, op := Go.Op.pick (Go.Operand.tmp 53) (Go.Operand.tmp 60) (Go.Operand.const (Go.Value.bool false)), type := 4, pos := _, after := _, guard := _ }) (v := ?_) rfl (by kernel_rfl) (by kernel_rfl) (by kernel_rfl) (fun _ _ _ h => h) (Or.inl ⟨by rfl, ?_⟩) (by exact hHeld) ?_
  rotate_left
  · intro w hSw; go_simp; try with_reducible rfl
  try simp only [Act.put]
  try simp only [List.setIfInBounds_toArray]
  try simp only [List.set]
  refine wpAnyH_take (i := 25) (oi := { dst := some 62, op := Go.Op.move (Go.Operand.tmp 61), type := 4, pos := _, after := _, guard := _ }) (v := ?_) rfl (by kernel_rfl) (by kernel_rfl) (by kernel_rfl) (fun _ _ _ h => h) (Or.inl ⟨by rfl, ?_⟩) (by exact hHeld) ?_
  rotate_left
  · intro w hSw; go_simp; try with_reducible rfl
  try simp only [Act.put]
  try simp only [List.setIfInBounds_toArray]
  try simp only [List.set]
  refine wpAnyH_take (i := 26) (oi := { dst := some 63, op := Go.Op.load 42 (Go.Operand.tmp 1), type := 42, pos := _, after := _, guard := _ }) (v := ?_) rfl (by kernel_rfl) (by kernel_rfl) (by kernel_rfl) (fun _ _ _ h => h) (Or.inl ⟨by rfl, ?_⟩) (by exact hHeld) ?_
  rotate_left
  · intro w hSw; obtain ⟨la0, la1, la2, la3, la4, la5⟩ := hSw.q1.cells; obtain ⟨lb0, lb1, lb2, lb3, lb4, lb5⟩ := hSw.q2.cells; obtain ⟨lc0, lc1, lc2, lc3, lc4, lc5⟩ := hSw.q3.cells; go_simp; try with_reducible rfl
  try simp only [Act.put]
  try simp only [List.setIfInBounds_toArray]
  try simp only [List.set]
  refine wpAnyH_take (i := 27) (oi := { dst := some 64, op := Go.Op.move (Go.Operand.tmp 4), type := 61, pos := _, after := _, guard := _ }) (v := ?_) rfl (by kernel_rfl) (by kernel_rfl) (by kernel_rfl) (fun _ _ _ h => h) (Or.inl ⟨by rfl, ?_⟩) (by exact hHeld) ?_
  rotate_left
  · intro w hSw; go_simp; try with_reducible rfl
  try simp only [Act.put]
  try simp only [List.setIfInBounds_toArray]
  try simp only [List.set]
  refine wpAnyH_ready (rs := [28]) (by kernel_rfl) (by simp) ?_
  refine AllReadyH.cons (o := { dst := some 65, op := Go.Op.call { callee := Go.Callee.value (Go.Operand.func 20), args := #[Go.Operand.const (Go.Value.string { data := #[99, 97, 99, 104, 101, 45, 99, 111, 110, 116, 114, 111, 108] }), Go.Operand.const (Go.Value.string { data := #[110, 111, 45, 115, 116, 111, 114, 101] })], argTypes := #[9, 9] }, type := 27, pos := _, after := _, guard := _ }) rfl (fun K hK => ?_) AllReadyH.nil
  go_simp
  go_at_call 20
  refine (of18_any _ _ _).mono ?_
  rintro e w6 ⟨rfl, a6⟩
  have hS2 := KH.aft hHeld a6
  have A6 := Aft.trans A5 a6
  clear A5
  have A5 := A6
  clear A6 a6
  clear hHeld
  refine hK.out _ _ hS2 (fun hHeld => ?_)
  clear hK K hS2
  try simp only [Act.put]
  try simp only [List.setIfInBounds_toArray]
  try simp only [List.set]
  refine wpAnyH_ready (rs := [29]) (by kernel_rfl) (by simp) ?_
  refine AllReadyH.cons (o := { dst := some 66, op := Go.Op.buildSlice 22 1 #[(0, Go.Operand.tmp 65)], type := 22, pos := _, after := _, guard := _ }) rfl (fun K hK => ?_) AllReadyH.nil
  go_simp
  have hS2 := KH.aft hHeld ((Aft.refl _).alloc (.cells #[.string ⟨#[99, 97, 99, 104, 101, 45, 99, 111, 110, 116, 114, 111, 108]⟩, .string ⟨#[110, 111, 45, 115, 116, 111, 114, 101]⟩] 27))
  have A6 := A5.alloc (.cells #[.string ⟨#[99, 97, 99, 104, 101, 45, 99, 111, 110, 116, 114, 111, 108]⟩, .string ⟨#[110, 111, 45, 115, 116, 111, 114, 101]⟩] 27)
  clear A5
  have A5 := A6
  clear A6
  clear hHeld
  refine hK.out _ _ hS2 (fun hHeld => ?_)
  clear hK K hS2
  try simp only [Act.put]
  try simp only [List.setIfInBounds_toArray]
  try simp only [List.set]
  refine wpAnyH_ready (rs := [30]) (by kernel_rfl) (by simp) ?_
  refine AllReadyH.cons (o := { dst := some 67, op := Go.Op.call { callee := Go.Callee.value (Go.Operand.tmp 64), args := #[Go.Operand.const (Go.Value.int Go.IntKind.i64 200), Go.Operand.tmp 66], argTypes := #[3, 22] }, type := 44, pos := _, after := _, guard := _ }) rfl (fun K hK => ?_) AllReadyH.nil
  go_simp
  go_at_call 32
  refine (say_f ?W0k4 ⟨#[99, 97, 99, 104, 101, 45, 99, 111, 110, 116, 114, 111, 108]⟩ ⟨#[110, 111, 45, 115, 116, 111, 114, 101]⟩ _ _ _ ?hak4 ?hgk4).mono ?kkk4
  case hak4 => first | exact Aft.refl _ | exact (Aft.refl _).drew
  case hgk4 => rfl
  rintro e w6 ⟨rfl, hRb, a6⟩
  have hS2 := KH.aft hHeld a6
  have A6 := Aft.trans A5 a6
  clear A5
  have A5 := A6
  clear A6 a6
  clear hHeld
  refine hK.out _ _ hS2 (fun hHeld => ?_)
  clear hK K hS2
  try simp only [Act.put]
  try simp only [List.setIfInBounds_toArray]
  try simp only [List.set]
  refine wpAnyH_ready (rs := [31]) (by kernel_rfl) (by simp) ?_
  refine AllReadyH.cons (o := { dst := some 68, op := Go.Op.call { callee := Go.Callee.value (Go.Operand.func 22), args := #[Go.Operand.tmp 63, Go.Operand.tmp 67], argTypes := #[42, 44] }, type := 4, pos := _, after := _, guard := _ }) rfl (fun K hK => ?_) AllReadyH.nil
  go_simp
  go_at_call 22
  refine (may_of ⟨#[71, 69, 84]⟩ (.slice none 0 0) _ 200 [] _ _ (rbF_none _) hRb fok_nil (fok_one _ (by decide)) false (by kernel_rfl)).mono ?_
  rintro e w6 ⟨rfl, a6⟩
  have hS2 := KH.aft hHeld a6
  have A6 := Aft.trans A5 a6
  clear A5
  have A5 := A6
  clear A6 a6
  clear hRb
  clear hHeld
  refine hK.out _ _ hS2 (fun hHeld => ?_)
  clear hK K hS2
  try simp only [Act.put]
  try simp only [List.setIfInBounds_toArray]
  try simp only [List.set]
  refine wpAnyH_take (i := 32) (oi := { dst := some 69, op := Go.Op.unOp Go.UnOp.not 4 (Go.Operand.tmp 68), type := 4, pos := _, after := _, guard := _ }) (v := ?_) rfl (by kernel_rfl) (by kernel_rfl) (by kernel_rfl) (fun _ _ _ h => h) (Or.inl ⟨by rfl, ?_⟩) (by exact hHeld) ?_
  rotate_left
  · intro w hSw; go_simp; try with_reducible rfl
  try simp only [Act.put]
  try simp only [List.setIfInBounds_toArray]
  try simp only [List.set]
  refine wpAnyH_take (i := 33) (oi := { dst := some 70, op := Go.Op.pick (Go.Operand.tmp 62) (Go.Operand.tmp 69) (Go.Operand.const (Go.Value.bool false)), type := 4, pos := _, after := _, guard := _ }) (v := ?_) rfl (by kernel_rfl) (by kernel_rfl) (by kernel_rfl) (fun _ _ _ h => h) (Or.inl ⟨by rfl, ?_⟩) (by exact hHeld) ?_
  rotate_left
  · intro w hSw; go_simp; try with_reducible rfl
  try simp only [Act.put]
  try simp only [List.setIfInBounds_toArray]
  try simp only [List.set]
  refine wpAnyH_take (i := 34) (oi := { dst := some 0, op := Go.Op.assign (Go.Operand.tmp 70), type := 4, pos := _, after := _, guard := _ }) (v := ?_) rfl (by kernel_rfl) (by kernel_rfl) (by kernel_rfl) (fun _ _ _ h => h) (Or.inl ⟨by rfl, ?_⟩) (by exact hHeld) ?_
  rotate_left
  · intro w hSw; go_simp; try with_reducible rfl
  try simp only [Act.put]
  try simp only [List.setIfInBounds_toArray]
  try simp only [List.set]
  refine wpAnyH_done (by kernel_rfl) ?_ _
  go_wp2
  go_ret
  exact ⟨rfl, A5⟩

theorem walkKeepRuns (w : World) : Calls Try.prog 18 #[] w fun e w' => e = .returned (.bool true) ∧ Aft w w' := keepruns_any w

end Go.Proofs.Ytaaffpndfeidfaa
