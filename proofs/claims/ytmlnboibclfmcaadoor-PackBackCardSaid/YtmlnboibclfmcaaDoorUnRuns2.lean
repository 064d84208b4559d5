/-
  New, Table, Bad, a bad unpacker's Block; rows are the same; the law's row. UnpackRuns. UnpackRuns: the walk.
-/
import Derived.Test.YtmlnboibclfmcaaDoorUnBlk
import Derived.Test.YtmlnboibclfmcaaDoorPackRuns
import Derived.Deep.RegionHeld
namespace Go.Proofs.YtmlnboibclfmcaaDoor
open Go.RowKit
set_option linter.unusedVariables false

set_option maxHeartbeats 2000000 in
theorem unew_yes (n list : Int) (h0 : 0 ≤ n) (h1 : n ≤ 65536) (k0 : 0 ≤ list) (k1 : list ≤ 2147483647) (w : World) (hm : MaxOk w) : Calls Tryd.prog 47 #[.int .i64 n, .int .i64 list] w fun e w' => ∃ (gu g : Nat) (vk : Value), e = .returned (.tuple #[.pointer (some ⟨gu, 0, none⟩), .int .i64 0]) ∧ Un w' w.heap.size gu g (.slice none 0 0) vk [] n n list false ∧ Aft w w' := by
  have HT := Lib.hid (tnew_yes n h0 h1 w hm)
  have i1 : ¬ list < 0 := by omega
  have i2 : ¬ list > 2147483647 := by omega
  clear h0 h1 hm k0 k1
  go_enter Tryd.func47, Tryd.ntmps47
  go_wp2_with fail
  refine HT.out.mono ?_
  rintro e w1 ⟨g, vk, rfl, ht, a1⟩
  have HP : Hid (Un (w1.alloc (.cells #[.pointer (some ⟨g, 0, none⟩), .int .i64 n, .int .i64 list, .bool false] 106)) w.heap.size w1.heap.size g (.slice none 0 0) vk [] n n list false) := Lib.hid ⟨ht.aft ((Aft.refl w1).alloc _), heap_alloc_new w1 _, a1.to.size⟩
  have HA := Lib.hid (a1.alloc (.cells #[.pointer (some ⟨g, 0, none⟩), .int .i64 n, .int .i64 list, .bool false] 106))
  clear ht a1
  go_wp2_with fail
  go_ret2
  exact ⟨_, _, _, rfl, HP.out, HA.out⟩
theorem ubad_any {w : World} {B gu g : Nat} {vo vk : Value} {l : List FieldL} {most top list : Int} {bad : Bool} (h : Un w B gu g vo vk l most top list bad) : Calls Tryd.prog 52 #[.pointer (some ⟨gu, 0, none⟩)] w fun e w' => e = .returned (.bool bad) ∧ w = w' := by
  obtain ⟨c0, c1, c2, c3, f⟩ := h.cells
  clear h c0 c1 c2 f
  go_enter Tryd.func52, Tryd.ntmps52
  go_wp2_with fail
  go_ret
  exact ⟨rfl, rfl⟩
set_option linter.unusedSimpArgs false in
set_option maxHeartbeats 4000000 in
theorem ublock_bad {w : World} {B gu g : Nat} {vo vk : Value} {l : List FieldL} {most top list : Int} (h : Un w B gu g vo vk l most top list true) (va : Option Addr) (n cap : Nat) : Calls Tryd.prog 49 #[.pointer (some ⟨gu, 0, none⟩), .slice va n cap] w fun e w' => e = .returned (.tuple #[.slice none 0 0, .int .i64 1]) ∧ Aft w w' := by
  obtain ⟨-, -, -, d3, -⟩ := (h.aft ((Aft.refl w).alloc (.cells #[.slice va n cap] 54))).cells
  clear h
  go_enter Tryd.func49, Tryd.ntmps49
  go_wp2_with fail
  go_ret2
  exact ⟨rfl, (Aft.refl w).alloc _⟩
theorem results_tmp3 {fn : Func} {t u v : Tmp} (h : fn.results = #[.tmp t, .tmp u, .tmp v]) (tmps : Array Value) (P : Program) (w : World) : (results fn tmps).run P w = .ok (.tuple #[tmps.getD t undef, tmps.getD u undef, tmps.getD v undef]) w := by
  simp [results, h]
set_option linter.unusedSimpArgs false in
set_option maxHeartbeats 8000000 in
set_option maxRecDepth 100000 in
theorem utable_any {w : World} {B gu g : Nat} {vo vk : Value} {l : List FieldL} {most top list : Int} {bad : Bool} (h : Un w B gu g vo vk l most top list bad) : Calls Tryd.prog 50 #[.pointer (some ⟨gu, 0, none⟩)] w fun e w' => e = .returned (.tuple #[.int .i64 (l.length : Int), .int .i64 (sumF l : Int), .int .i64 most]) ∧ Aft w w' := by
  have HD : Hid (Un w.drew B gu g vo vk l most top list bad) := Lib.hid (h.aft ((Aft.refl w).drew))
  clear h
  obtain ⟨n, hn⟩ : ∃ n : Int, (l.length : Int) = n := ⟨_, rfl⟩
  obtain ⟨sz, hsz⟩ : ∃ n : Int, (sumF l : Int) = n := ⟨_, rfl⟩
  have HLN := Lib.hid (fun w (h : Un w B gu g vo vk l most top list bad) => tlen_any h.t)
  have HSZ := Lib.hid (fun w (h : Un w B gu g vo vk l most top list bad) => tsize_any h.t)
  have HMS := Lib.hid (fun w (h : Un w B gu g vo vk l most top list bad) => tmost_any h.t)
  rw [hn] at HLN ⊢
  rw [hsz] at HSZ ⊢
  clear hn hsz
  go_enter Tryd.func50, Tryd.ntmps50
  go_upto_region 1 with fail
  refine wp_region_held_drew (S := fun w' => Un w' B gu g vo vk l most top list bad ∧ Aft w w') (by kernel_rfl) ⟨HD.out, (Aft.refl w).drew⟩ (fun hHeld => ?_)
  refine wpAnyH_take (i := 0) (oi := { dst := some 5, op := Go.Op.move (Go.Operand.tmp 0), type := 74, pos := _, after := _, guard := _ }) (v := ?_) rfl (by kernel_rfl) (by kernel_rfl) (by kernel_rfl) (fun _ _ _ h => h) (Or.inl ⟨by rfl, ?_⟩) (by exact hHeld) ?_
  rotate_left
  · intro w hSw; go_simp; try with_reducible rfl
  try simp only [Act.put]
  try simp only [List.setIfInBounds_toArray]
  try simp only [List.set]
  refine wpAnyH_take (i := 1) (oi := { dst := some 6, op := Go.Op.nilCheck (Go.Operand.tmp 5), type := 0, pos := _, after := _, guard := _ }) (v := ?_) rfl (by kernel_rfl) (by kernel_rfl) (by kernel_rfl) (fun _ _ _ h => h) (Or.inl ⟨by rfl, ?_⟩) (by exact hHeld) ?_
  rotate_left
  · intro w hSw; go_simp; try with_reducible rfl
  try simp only [Act.put]
  try simp only [List.setIfInBounds_toArray]
  try simp only [List.set]
  refine wpAnyH_take (i := 2) (oi := { dst := some 7, op := Go.Op.fieldAddr 106 (Go.Operand.tmp 6) 0, type := 0, pos := _, after := _, guard := _ }) (v := ?_) rfl (by kernel_rfl) (by kernel_rfl) (by kernel_rfl) (fun _ _ _ h => h) (Or.inl ⟨by rfl, ?_⟩) (by exact hHeld) ?_
  rotate_left
  · intro w hSw; go_simp; try with_reducible rfl
  try simp only [Act.put]
  try simp only [List.setIfInBounds_toArray]
  try simp only [List.set]
  refine wpAnyH_take (i := 3) (oi := { dst := some 8, op := Go.Op.load 22 (Go.Operand.tmp 7), type := 22, pos := _, after := _, guard := _ }) (v := ?_) rfl (by kernel_rfl) (by kernel_rfl) (by kernel_rfl) (fun _ _ _ h => h) (Or.inl ⟨by rfl, ?_⟩) (by exact hHeld) ?_
  rotate_left
  · intro w hSw; obtain ⟨c0, c1, c2, c3, f⟩ := hSw.1.cells; go_simp; try with_reducible rfl
  try simp only [Act.put]
  try simp only [List.setIfInBounds_toArray]
  try simp only [List.set]
  refine wpAnyH_take (i := 5) (oi := { dst := some 10, op := Go.Op.move (Go.Operand.tmp 0), type := 74, pos := _, after := _, guard := _ }) (v := ?_) rfl (by kernel_rfl) (by kernel_rfl) (by kernel_rfl) (fun _ _ _ h => h) (Or.inl ⟨by rfl, ?_⟩) (by exact hHeld) ?_
  rotate_left
  · intro w hSw; go_simp; try with_reducible rfl
  try simp only [Act.put]
  try simp only [List.setIfInBounds_toArray]
  try simp only [List.set]
  refine wpAnyH_take (i := 6) (oi := { dst := some 11, op := Go.Op.nilCheck (Go.Operand.tmp 10), type := 0, pos := _, after := _, guard := _ }) (v := ?_) rfl (by kernel_rfl) (by kernel_rfl) (by kernel_rfl) (fun _ _ _ h => h) (Or.inl ⟨by rfl, ?_⟩) (by exact hHeld) ?_
  rotate_left
  · intro w hSw; go_simp; try with_reducible rfl
  try simp only [Act.put]
  try simp only [List.setIfInBounds_toArray]
  try simp only [List.set]
  refine wpAnyH_take (i := 7) (oi := { dst := some 12, op := Go.Op.fieldAddr 106 (Go.Operand.tmp 11) 0, type := 0, pos := _, after := _, guard := _ }) (v := ?_) rfl (by kernel_rfl) (by kernel_rfl) (by kernel_rfl) (fun _ _ _ h => h) (Or.inl ⟨by rfl, ?_⟩) (by exact hHeld) ?_
  rotate_left
  · intro w hSw; go_simp; try with_reducible rfl
  try simp only [Act.put]
  try simp only [List.setIfInBounds_toArray]
  try simp only [List.set]
  refine wpAnyH_take (i := 8) (oi := { dst := some 13, op := Go.Op.load 22 (Go.Operand.tmp 12), type := 22, pos := _, after := _, guard := _ }) (v := ?_) rfl (by kernel_rfl) (by kernel_rfl) (by kernel_rfl) (fun _ _ _ h => h) (Or.inl ⟨by rfl, ?_⟩) (by exact hHeld) ?_
  rotate_left
  · intro w hSw; obtain ⟨c0, c1, c2, c3, f⟩ := hSw.1.cells; go_simp; try with_reducible rfl
  try simp only [Act.put]
  try simp only [List.setIfInBounds_toArray]
  try simp only [List.set]
  refine wpAnyH_take (i := 10) (oi := { dst := some 15, op := Go.Op.move (Go.Operand.tmp 0), type := 74, pos := _, after := _, guard := _ }) (v := ?_) rfl (by kernel_rfl) (by kernel_rfl) (by kernel_rfl) (fun _ _ _ h => h) (Or.inl ⟨by rfl, ?_⟩) (by exact hHeld) ?_
  rotate_left
  · intro w hSw; go_simp; try with_reducible rfl
  try simp only [Act.put]
  try simp only [List.setIfInBounds_toArray]
  try simp only [List.set]
  refine wpAnyH_take (i := 11) (oi := { dst := some 16, op := Go.Op.nilCheck (Go.Operand.tmp 15), type := 0, pos := _, after := _, guard := _ }) (v := ?_) rfl (by kernel_rfl) (by kernel_rfl) (by kernel_rfl) (fun _ _ _ h => h) (Or.inl ⟨by rfl, ?_⟩) (by exact hHeld) ?_
  rotate_left
  · intro w hSw; go_simp; try with_reducible rfl
  try simp only [Act.put]
  try simp only [List.setIfInBounds_toArray]
  try simp only [List.set]
  refine wpAnyH_take (i := 12) (oi := { dst := some 17, op := Go.Op.fieldAddr 106 (Go.Operand.tmp 16) 0, type := 0, pos := _, after := _, guard := _ }) (v := ?_) rfl (by kernel_rfl) (by kernel_rfl) (by kernel_rfl) (fun _ _ _ h => h) (Or.inl ⟨by rfl, ?_⟩) (by exact hHeld) ?_
  rotate_left
  · intro w hSw; go_simp; try with_reducible rfl
  try simp only [Act.put]
  try simp only [List.setIfInBounds_toArray]
  try simp only [List.set]
  refine wpAnyH_take (i := 13) (oi := { dst := some 18, op := Go.Op.load 22 (Go.Operand.tmp 17), type := 22, pos := _, after := _, guard := _ }) (v := ?_) rfl (by kernel_rfl) (by kernel_rfl) (by kernel_rfl) (fun _ _ _ h => h) (Or.inl ⟨by rfl, ?_⟩) (by exact hHeld) ?_
  rotate_left
  · intro w hSw; obtain ⟨c0, c1, c2, c3, f⟩ := hSw.1.cells; go_simp; try with_reducible rfl
  try simp only [Act.put]
  try simp only [List.setIfInBounds_toArray]
  try simp only [List.set]
  refine wpAnyH_ready (rs := [4]) (by kernel_rfl) (by simp) ?_
  refine AllReadyH.cons (o := { dst := some 9, op := Go.Op.call { callee := Go.Callee.value (Go.Operand.func 23), args := #[Go.Operand.tmp 8], argTypes := #[22] }, type := 3, pos := _, after := _, guard := _ }) rfl (fun K hK => ?_) AllReadyH.nil
  go_simp
  go_at_call 23
  refine (HLN.out _ hHeld.1).mono ?_
  rintro e w6 ⟨rfl, rfl⟩
  have hS2 := hHeld
  clear hHeld
  refine hK.out _ _ hS2 (fun hHeld => ?_)
  clear hK K hS2
  try simp only [Act.put]
  try simp only [List.setIfInBounds_toArray]
  try simp only [List.set]
  refine wpAnyH_ready (rs := [9]) (by kernel_rfl) (by simp) ?_
  refine AllReadyH.cons (o := { dst := some 14, op := Go.Op.call { callee := Go.Callee.value (Go.Operand.func 22), args := #[Go.Operand.tmp 13], argTypes := #[22] }, type := 3, pos := _, after := _, guard := _ }) rfl (fun K hK => ?_) AllReadyH.nil
  go_simp
  go_at_call 22
  refine (HSZ.out _ hHeld.1).mono ?_
  rintro e w6 ⟨rfl, rfl⟩
  have hS2 := hHeld
  clear hHeld
  refine hK.out _ _ hS2 (fun hHeld => ?_)
  clear hK K hS2
  try simp only [Act.put]
  try simp only [List.setIfInBounds_toArray]
  try simp only [List.set]
  refine wpAnyH_ready (rs := [14]) (by kernel_rfl) (by simp) ?_
  refine AllReadyH.cons (o := { dst := some 19, op := Go.Op.call { callee := Go.Callee.value (Go.Operand.func 34), args := #[Go.Operand.tmp 18], argTypes := #[22] }, type := 3, pos := _, after := _, guard := _ }) rfl (fun K hK => ?_) AllReadyH.nil
  go_simp
  go_at_call 34
  refine (HMS.out _ hHeld.1).mono ?_
  rintro e w6 ⟨rfl, rfl⟩
  have hS2 := hHeld
  clear hHeld
  refine hK.out _ _ hS2 (fun hHeld => ?_)
  clear hK K hS2
  try simp only [Act.put]
  try simp only [List.setIfInBounds_toArray]
  try simp only [List.set]
  refine wpAnyH_take (i := 15) (oi := { dst := some 2, op := Go.Op.assign (Go.Operand.tmp 9), type := 3, pos := _, after := _, guard := _ }) (v := ?_) rfl (by kernel_rfl) (by kernel_rfl) (by kernel_rfl) (fun _ _ _ h => h) (Or.inl ⟨by rfl, ?_⟩) (by exact hHeld) ?_
  rotate_left
  · intro w hSw; go_simp; try with_reducible rfl
  try simp only [Act.put]
  try simp only [List.setIfInBounds_toArray]
  try simp only [List.set]
  refine wpAnyH_take (i := 16) (oi := { dst := some 3, op := Go.Op.assign (Go.Operand.tmp 14), type := 3, pos := _, after := _, guard := _ }) (v := ?_) rfl (by kernel_rfl) (by kernel_rfl) (by kernel_rfl) (fun _ _ _ h => h) (Or.inl ⟨by rfl, ?_⟩) (by exact hHeld) ?_
  rotate_left
  · intro w hSw; go_simp; try with_reducible rfl
  try simp only [Act.put]
  try simp only [List.setIfInBounds_toArray]
  try simp only [List.set]
  refine wpAnyH_take (i := 17) (oi := { dst := some 4, op := Go.Op.assign (Go.Operand.tmp 19), type := 3, pos := _, after := _, guard := _ }) (v := ?_) rfl (by kernel_rfl) (by kernel_rfl) (by kernel_rfl) (fun _ _ _ h => h) (Or.inl ⟨by rfl, ?_⟩) (by exact hHeld) ?_
  rotate_left
  · intro w hSw; go_simp; try with_reducible rfl
  try simp only [Act.put]
  try simp only [List.setIfInBounds_toArray]
  try simp only [List.set]
  refine wpAnyH_done (by kernel_rfl) ?_ _
  have HA := Lib.hid hHeld.2
  clear hHeld HD
  go_wp2_with fail
  refine bodyPost_ret (results_tmp3 rfl _ _ _) rfl ?_
  exact ⟨rfl, HA.out⟩
theorem row7_any (n v : ByteArray) (w : World) : Calls Tryd.prog 48 #[.string n, .string v] w fun e w' => e = .returned (.agg #[.string n, .string v, .int .i64 1]) ∧ Aft w w' := by
  have hset := heap_alloc_new w (.cells #[.string n, .string v, .int .i64 1] 57)
  have hsz : (Tryd.prog.info? 57).map (·.size) = some (#[Value.string n, Value.string v, .int .i64 1]).size := by kernel_rfl
  have HS := Lib.hid hset
  have HZ := Lib.hid hsz
  clear hset hsz
  go_enter Tryd.func48, Tryd.ntmps48
  go_wp2_with fail
  refine bodyPost_ret (results_cell_row rfl _ _ w.heap.size 57 #[.string n, .string v, .int .i64 1] (0, 0) _ rfl HS.out Tryd.underlying57 rfl HZ.out) rfl ?_
  exact ⟨rfl, (Aft.refl w).alloc _⟩
set_option maxHeartbeats 4000000 in
theorem sameW_any (v1 v2 : Value) (l : List RowL) (w : World) (h1 : RbW w v1 l) (h2 : RbW w v2 l) :
    Calls Tryd.prog 51 #[v1, v2] w fun e w' => e = .returned (.bool true) ∧ Aft w w' := by
  obtain ⟨a1, c1, b1, o1, rfl, m1, n1, r1⟩ := h1.open
  obtain ⟨a2, c2, b2, o2, rfl, m2, n2, r2⟩ := h2.open
  unfold maxLen at n1 n2
  clear h1 h2
  have hb : ((l.length : Int) != (l.length : Int)) = false := by simp
  have hl63 : l.length ≤ 9223372036854775807 := by omega
  clear m1 m2 n1 n2
  go_enter Tryd.func51, Tryd.ntmps51
  go_wp2_with fail
  go_loopw [5] (fun v wr => ∃ k : Nat, k ≤ l.length ∧ v = .int .i64 (k : Int) ∧ Aft w wr) (fun v _ => l.length - (intOf v).toNat)
  case atStart => exact ⟨0, by omega, by go_num, Aft.refl _⟩
  case round =>
    obtain ⟨k, hk, rfl, hwr⟩ := hrel
    by_cases hlt : k < l.length
    · obtain ⟨p1, q1, x1, x2, x3⟩ := r1 k hlt
      obtain ⟨p2, q2, y1, y2, y3⟩ := r2 k hlt
      rw [← Below.cell hwr.to (p := ⟨b1, o1 + k * 3, none⟩) q1] at x1
      rw [← Below.cell hwr.to (p := ⟨b1, o1 + k * 3 + 1, none⟩) q1] at x2
      rw [← Below.cell hwr.to (p := ⟨b1, o1 + k * 3 + 2, none⟩) q1] at x3
      rw [← Below.cell hwr.to (p := ⟨b2, o2 + k * 3, none⟩) q2] at y1
      rw [← Below.cell hwr.to (p := ⟨b2, o2 + k * 3 + 1, none⟩) q2] at y2
      rw [← Below.cell hwr.to (p := ⟨b2, o2 + k * 3 + 2, none⟩) q2] at y3
      obtain ⟨s1, hs1⟩ : ∃ s, strV l[k].f.1 = .string s := ⟨_, rfl⟩
      obtain ⟨s2, hs2⟩ : ∃ s, strV l[k].f.2 = .string s := ⟨_, rfl⟩
      obtain ⟨how, hs3⟩ : ∃ s, l[k].how = s := ⟨_, rfl⟩
      rw [hs1] at x1 y1
      rw [hs2] at x2 y2
      rw [hs3] at x3 y3
      subst p1 p2
      clear q1 q2 r1 r2 hs1 hs2 hs3
      have i1 : (k : Int) < (l.length : Int) := by omega
      go_wp2_with fail
      go_quiet (fail)
      go_wp2_with fail
      go_roundw
      case rel => exact ⟨k + 1, by omega, by go_num, hwr.drewN _⟩
      case measure => simp [intOf]; omega
    · go_wp2_with fail
      go_ret
      exact ⟨rfl, hwr⟩
end Go.Proofs.YtmlnboibclfmcaaDoor
namespace Go.Proofs.YtmlnboibclfmcaaDoor
open Go.RowKit
set_option linter.unusedVariables false

theorem wpList_pushesW_w {w : World} {ops : Array Oper} {rest : List Oper} {o : Oper} {a : Act} {Q : Exit → Act → World → Prop} (hw : Region.wanted o (yielded ops a.tmps) = true) (s x : Operand)
    (ho : o.op = .call { callee := .builtin .append, args := #[s, x], argTypes := #[59, 59] })
    (base : Nat) (v u : Value) (l m : List RowL) (hs : a.eval s = v) (hown : OwnW w base v l) (hx : a.eval x = u) (hr : RbW w u m)
    (hl : l.length + m.length ≤ 1000000000000) (hbase : base ≤ w.heap.size)
    (h : ∀ v' w', OwnW w' base v' (l ++ m) → w.grownBy w' v.ownBlock → wpList Tryd.prog ops Q rest (a.put o.dst v') w') : wpList Tryd.prog ops Q (o :: rest) a w :=
  wpList_step fun K hK => by rw [if_pos hw]; exact wp_pushesW s x ho base v u l m hs hown hx hr hl hbase (fun v' w' h1 h2 => hK _ _ (h v' w' h1 h2))
theorem Un.below {w w1 w2 : World} {B gu g : Nat} {vo vk : Value} {l : List FieldL} {most top list : Int} {bad : Bool} (a : Aft w w1) (h : Un w1 B gu g vo vk l most top list bad) (hB : w.heap.size ≤ B) (hc : Chg (PU gu g vo) w1 w2) : Aft w w2 := by
  refine Below.trans a (hc.below (fun k hk => ?_) a.to.size)
  rcases hk with rfl | rfl | hk
  · exact Nat.le_trans hB h.pB
  · exact Nat.le_trans hB h.t.gB
  · exact Nat.le_trans hB (h.t.own.lt k hk).1
theorem Un.notRow {w : World} {B gu g : Nat} {vo vk : Value} {l : List FieldL} {most top list : Int} {bad : Bool} (h : Un w B gu g vo vk l most top list bad) {k : Nat} {cur : Array Value} (hk : w.heap[k]? = some (.cells cur 57 (0, 0))) : ¬ PU gu g vo k := by
  intro e
  rcases e with rfl | rfl | e
  · rw [h.p] at hk
    injection hk with hk
    injection hk with _ hk
    exact absurd hk (by decide)
  · rw [h.t.blk] at hk
    injection hk with hk
    injection hk with _ hk
    exact absurd hk (by decide)
  · obtain ⟨cur2, h2⟩ := h.t.own.blk e
    rw [h2] at hk
    injection hk with hk
    injection hk with _ hk
    exact absurd hk (by decide)
theorem WB.un {w w' : World} {B gu g g4 : Nat} {vo vk : Value} {l : List FieldL} {most top list : Int} {bad : Bool} {R : List RowL} (h : WB w g4 R) (hu : Un w B gu g vo vk l most top list bad) (hc : Chg (PU gu g vo) w w') : WB w' g4 R := (hc.block g4 h.lt (hu.notRow h)).trans h
theorem WB.aft7 {w w' : World} {g4 : Nat} {R : List RowL} (h : WB w g4 R) (a : Aft w w') : WB w' g4 R := (a.block g4 h.lt).trans h
theorem OwnW.un7 {w w' : World} {B gu g base : Nat} {vo vk v : Value} {l : List FieldL} {most top list : Int} {bad : Bool} {R : List RowL} (h : OwnW w base v R) (hu : Un w B gu g vo vk l most top list bad) (hc : Chg (PU gu g vo) w w') : OwnW w' base v R := h.chg hc (fun k hk => by obtain ⟨cur, h9⟩ := h.blk hk; exact hu.notRow h9)
theorem OwnW.rbw {w : World} {base : Nat} {v : Value} {l : List RowL} (h : OwnW w base v l) : RbW w v l := RW.rb h.cw
/-- A block of literal bytes. -/
theorem ublock_lit {w : World} {B gu g : Nat} {vo vk : Value} {l : List FieldL} {most top list : Int} (bytes : List UInt8) (h : Un w B gu g vo vk l most top list false) (hlen : bytes.length ≤ 1000000) (hl : (sumF l : Int) ≤ most) (hm0 : 0 ≤ most) (hm1 : most ≤ 65536) (htop : top ≤ 65536) (hl0 : 0 ≤ list) (hl1 : list ≤ 2147483647) (gB : Nat) (hgB : w.heap.size = gB) (n : Nat) (hn : bytes.length = n) (q : US × Int) (hq : blkU top list bytes l most = q) :
    Calls Tryd.prog 49 #[.pointer (some ⟨gu, 0, none⟩), .slice (some ⟨gB, 0, none⟩) n n] (w.alloc (.cells (bv bytes).toArray 5)) fun e w' => BlkPost (w.alloc (.cells (bv bytes).toArray 5)) B gu g vo vk top list q e w' := by
  subst hgB hn hq
  have hb : (w.alloc (.cells (bv bytes).toArray 5)).heap[w.heap.size]? = some (.cells (bv bytes).toArray 5 (0, 0)) := heap_alloc_new w _
  refine ublock_any (h.aft ((Aft.refl w).alloc _)) (fun wx hc => ?_) hlen hl hm0 hm1 htop hl0 hl1
  refine (Own.of_block (base := 0) ((hc.block w.heap.size (lt_of_heap hb) ?_).trans hb) (Nat.zero_le _) (by unfold maxLen; omega)).rb
  intro e
  rcases e with e | e | e
  · have := h.lt; omega
  · have := h.t.lt; omega
  · have := (h.t.own.lt _ e).2; omega
theorem BlkPost.ok {w w' : World} {B gu g : Nat} {vo vk : Value} {top list : Int} {q : US × Int} {e : Ending} (h : BlkPost w B gu g vo vk top list q e w') (h0 : q.2 = 0) (R : List RowL) (hR : q.1.rows = R) (T : List FieldL) (hT : q.1.tab = T) (M : Int) (hM : q.1.most = M) (n : Nat) (hn : R.length = n) : ∃ (ra : Option Addr) (rk : Nat) (vo' : Value), e = .returned (.tuple #[.slice ra n rk, .int .i64 0]) ∧ Un w' B gu g vo' vk T M top list false ∧ OwnW w' w.heap.size (.slice ra n rk) R ∧ Chg (PU gu g vo) w w' := by
  subst hR hT hM hn
  rcases h with ⟨_, ra, rk, vo', h1, h2, h3, h4, _⟩ | ⟨h1, _⟩
  · exact ⟨ra, rk, vo', h1, h2, h3, h4⟩
  · exact absurd h0 h1
theorem BlkPost.no {w w' : World} {B gu g : Nat} {vo vk : Value} {top list : Int} {q : US × Int} {e : Ending} (h : BlkPost w B gu g vo vk top list q e w') (E : Int) (h0 : q.2 = E) (hE : E ≠ 0) (T : List FieldL) (hT : q.1.tab = T) (M : Int) (hM : q.1.most = M) : ∃ (vo' : Value), e = .returned (.tuple #[.slice none 0 0, .int .i64 E]) ∧ Un w' B gu g vo' vk T M top list true ∧ Chg (PU gu g vo) w w' := by
  subst h0 hT hM
  rcases h with ⟨h1, _⟩ | ⟨_, vo', h1, h2, h3, _⟩
  · exact absurd h1 hE
  · exact ⟨vo', h1, h2, h3⟩

def rX : RowL := ⟨([99, 97, 99, 104, 101, 45, 99, 111, 110, 116, 114, 111, 108], [110, 111, 45, 99, 97, 99, 104, 101]), 1⟩
def tB7 : List FieldL := rX.f :: tA
def bB7 : List UInt8 := [0x82, 0x86, 0x84, 0xbe, 0x58, 0x86, 0xa8, 0xeb, 0x10, 0x64, 0x9c, 0xbf]
def bC7 : List UInt8 := [0x3f, 0xe1, 0x1f, 0x82]
def bD7 : List UInt8 := [0x82, 0x20]
theorem qA : (blkU 4096 4096 bA [] 4096).2 = 0 ∧ (blkU 4096 4096 bA [] 4096).1.rows = pA ∧ (blkU 4096 4096 bA [] 4096).1.tab = tA ∧ (blkU 4096 4096 bA [] 4096).1.most = 4096 := ⟨by kernel_rfl, by kernel_rfl, by kernel_rfl, by kernel_rfl⟩
theorem qB : (blkU 4096 4096 bB7 tA 4096).2 = 0 ∧ (blkU 4096 4096 bB7 tA 4096).1.rows = pA ++ [rX] ∧ (blkU 4096 4096 bB7 tA 4096).1.tab = tB7 ∧ (blkU 4096 4096 bB7 tA 4096).1.most = 4096 := ⟨by kernel_rfl, by kernel_rfl, by kernel_rfl, by kernel_rfl⟩
theorem qC : (blkU 4096 4096 bC7 tB7 4096).2 = 0 ∧ (blkU 4096 4096 bC7 tB7 4096).1.rows = pC ∧ (blkU 4096 4096 bC7 tB7 4096).1.tab = tB7 ∧ (blkU 4096 4096 bC7 tB7 4096).1.most = 4096 := ⟨by kernel_rfl, by kernel_rfl, by kernel_rfl, by kernel_rfl⟩
theorem qD : (blkU 4096 4096 bD7 tB7 4096).2 = 6 ∧ (blkU 4096 4096 bD7 tB7 4096).1.tab = tB7 ∧ (blkU 4096 4096 bD7 tB7 4096).1.most = 4096 := ⟨by kernel_rfl, by kernel_rfl, by kernel_rfl⟩
theorem wb_first {w : World} {g : Nat} (h : WB w g pA) : RbW w (.slice (some ⟨g, 0, none⟩) 1 4) pC := by
  rcases h.rb (by decide) with ⟨_, h9⟩ | ⟨b, off, cap, e, h1, h2, h3, h4⟩
  · cases h9
  · injection e with e1 e2 e3
    injection e1 with e1
    injection e1 with e4 e5
    subst e4 e5
    refine Or.inr ⟨g, 0, 4, rfl, by decide, by simp [maxLen], h3, fun i hi => ?_⟩
    have : i = 0 := by simp [pC] at hi; omega
    subst this
    exact h4 0 (by decide)
end Go.Proofs.YtmlnboibclfmcaaDoor
namespace Go.Proofs.YtmlnboibclfmcaaDoor
open Go.RowKit
set_option linter.unusedVariables false

set_option linter.unusedSimpArgs false in
set_option maxHeartbeats 32000000 in
set_option maxRecDepth 100000 in
theorem unpackruns_any (w : World) (hm : MaxOk w) : Calls Tryd.prog 13 #[] w fun e w' => e = .returned (.bool true) ∧ Aft w w' := by
  have HN := Lib.hid (unew_yes 4096 4096 (by decide) (by decide) (by decide) (by decide) w hm)
  clear hm
  go_enter Tryd.func13, Tryd.ntmps13
  go_wp2_with fail
  refine HN.out.mono ?_
  rintro e w1 ⟨gu, g, vk, rfl, hu1, a1⟩
  have HU1 := Lib.hid hu1
  have HA1 := Lib.hid a1
  clear hu1 a1 HN
  go_wp2_with fail
  refine (row7_any _ _ _).mono ?_
  rintro e x1 ⟨rfl, r1⟩
  go_wp2_with fail
  refine (row7_any _ _ _).mono ?_
  rintro e x2 ⟨rfl, r2⟩
  go_wp2_with fail
  refine (row7_any _ _ _).mono ?_
  rintro e x3 ⟨rfl, r3⟩
  go_wp2_with fail
  refine (row7_any _ _ _).mono ?_
  rintro e x4 ⟨rfl, r4⟩
  go_wp2_with fail
  have r5 := (((r1.trans r2).trans r3).trans r4).alloc (.cells (rv pA).toArray 57)
  have hwA : WB (x4.alloc (.cells (rv pA).toArray 57)) x4.heap.size pA := heap_alloc_new x4 _
  have hu5 := HU1.out.aft r5
  have HA5 := Lib.hid (HA1.out.trans r5)
  have hsz : (x4.alloc (.cells (rv pA).toArray 57)).heap.size = x4.heap.size + 1 := World.size_alloc _ _
  have HX4 : Hid (w.heap.size ≤ x4.heap.size) := Lib.hid ((HA1.out.trans (((r1.trans r2).trans r3).trans r4)).size)
  clear r1 r2 r3 r4 r5 HU1 HA1
  have a5 := (Aft.refl (x4.alloc (.cells (rv pA).toArray 57))).alloc (.cells (bv bA).toArray 5)
  refine (ublock_lit bA hu5 (by decide) (by decide) (by decide) (by decide) (by decide) (by decide) (by decide) _ hsz 17 rfl _ rfl).mono ?_
  rintro e w6 hp
  obtain ⟨ra, rk, vo6, rfl, hu6, ho6, hc6⟩ := hp.ok qA.1 pA qA.2.1 tA qA.2.2.1 4096 qA.2.2.2 4 rfl
  have HA6 := Lib.hid (Un.below (HA5.out.trans a5) (hu5.aft a5) (Nat.le_refl _) hc6)
  have HF6 := Lib.hid ((hwA.aft7 a5).un (hu5.aft a5) hc6)
  have HU6 := Lib.hid hu6
  have HO6 := Lib.hid ho6
  generalize x4.heap.size = g4 at HF6 HX4 ⊢
  clear hp hu6 ho6 hc6 hu5 hwA a5 hsz HA5
  go_wp2_with fail
  have ht := utable_any HU6.out
  rw [show (tA.length : Int) = 1 from rfl, show (sumF tA : Int) = 57 by decide +kernel] at ht
  refine ht.mono ?_
  rintro e w7 ⟨rfl, a7⟩
  have HA7 := Lib.hid (HA6.out.trans a7)
  have HF7 := Lib.hid (HF6.out.aft7 a7)
  have HU7 := Lib.hid (HU6.out.aft a7)
  have HO7 := Lib.hid (HO6.out.aft a7)
  clear ht a7 HA6 HF6 HU6 HO6
  go_wp2_with fail
  refine (sameW_any _ _ pA _ HO7.out.rbw (HF7.out.rb (by decide))).mono ?_
  rintro e w8 ⟨rfl, a8⟩
  have HA8 := Lib.hid (HA7.out.trans a8)
  have HF8 := Lib.hid (HF7.out.aft7 a8)
  have HU8 := Lib.hid (HU7.out.aft a8)
  clear a8 HA7 HF7 HU7 HO7
  go_wp2_with fail
  have a9 := (Aft.refl w8).alloc (.cells (bv bB7).toArray 5)
  refine (ublock_lit bB7 HU8.out (by decide) (by decide +kernel) (by decide) (by decide) (by decide) (by decide) (by decide) _ rfl 12 rfl _ rfl).mono ?_
  rintro e w9 hp
  obtain ⟨rb, rkb, vo9, rfl, hu9, ho9, hc9⟩ := hp.ok qB.1 (pA ++ [rX]) qB.2.1 tB7 qB.2.2.1 4096 qB.2.2.2 5 rfl
  have HA9 := Lib.hid (Un.below (HA8.out.trans a9) (HU8.out.aft a9) (Nat.le_refl _) hc9)
  have HF9 := Lib.hid ((HF8.out.aft7 a9).un (HU8.out.aft a9) hc9)
  have HU9 := Lib.hid hu9
  have HO9 := Lib.hid ho9
  clear hp hu9 ho9 hc9 a9 HA8 HF8 HU8
  go_wp2_with fail
  have ht := utable_any HU9.out
  rw [show (tB7.length : Int) = 2 from rfl, show (sumF tB7 : Int) = 110 by decide +kernel] at ht
  refine ht.mono ?_
  rintro e w10 ⟨rfl, a10⟩
  have HA10 := Lib.hid (HA9.out.trans a10)
  have HF10 := Lib.hid (HF9.out.aft7 a10)
  have HU10 := Lib.hid (HU9.out.aft a10)
  have HO10 := Lib.hid (HO9.out.aft a10)
  clear ht a10 HA9 HF9 HU9 HO9
  have HE := Lib.hid (OwnW.empty w10 w10.heap.size (Nat.le_refl _))
  have HR11 := Lib.hid ((HF10.out.rb (by decide)).aft ((Aft.refl w10).alloc (.cells #[] 57)))
  go_wp2_with (at_builtin; refine wpList_pushesW_w rfl (.tmp 76) (.tmp 77) rfl w10.heap.size _ _ [] pA rfl HE.out rfl HR11.out (by decide) (le_alloc (Nat.le_refl _) _) ?_; intro v11 w11 o11 g11)
  rw [List.nil_append] at o11
  have hA11 := OwnW.push_aft ((Aft.refl w10).alloc _) HE.out g11 (Nat.le_refl _) (le_alloc (Nat.le_refl _) _)
  have HB11 := Lib.hid hA11
  have HO11 := Lib.hid o11
  clear hA11 o11 g11 HE HR11
  refine (row7_any _ _ _).mono ?_
  rintro e w12 ⟨rfl, r12⟩
  have HB12 := Lib.hid (HB11.out.trans r12)
  have HO12 := Lib.hid ((HO11.out.aft r12).aft ((Aft.refl w12).alloc (.cells #[.string ⟨#[99, 97, 99, 104, 101, 45, 99, 111, 110, 116, 114, 111, 108]⟩, .string ⟨#[110, 111, 45, 99, 97, 99, 104, 101]⟩, .int .i64 1] 57)))
  clear r12 HB11 HO11
  go_wp2_with (at_builtin; refine wpList_pushesW_w rfl (.tmp 78) (.tmp 80) rfl w10.heap.size _ _ pA [rX] rfl HO12.out rfl (rbW_one rX.f.1 rX.f.2 1 _ _ rfl rfl w12) (by decide) (le_alloc HB12.out.to.size _) ?_; intro v13 w13 o13 g13)
  have hA13 := OwnW.push_aft (HB12.out.alloc _) HO12.out g13 (Nat.le_refl _) (le_alloc HB12.out.to.size _)
  refine (sameW_any _ _ (pA ++ [rX]) _ (HO10.out.aft hA13).rbw o13.rbw).mono ?_
  rintro e w14 ⟨rfl, a14⟩
  have HA14 := Lib.hid (HA10.out.trans (hA13.trans a14))
  have HF14 := Lib.hid (HF10.out.aft7 (hA13.trans a14))
  have HU14 := Lib.hid (HU10.out.aft (hA13.trans a14))
  clear hA13 a14 o13 g13 HB12 HO12 HA10 HF10 HU10 HO10
  go_wp2_with fail
  have a15 := (Aft.refl w14).alloc (.cells (bv bC7).toArray 5)
  refine (ublock_lit bC7 HU14.out (by decide) (by decide +kernel) (by decide) (by decide) (by decide) (by decide) (by decide) _ rfl 4 rfl _ rfl).mono ?_
  rintro e w15 hp
  obtain ⟨rc, rkc, vo15, rfl, hu15, ho15, hc15⟩ := hp.ok qC.1 pC qC.2.1 tB7 qC.2.2.1 4096 qC.2.2.2 1 rfl
  have HA15 := Lib.hid (Un.below (HA14.out.trans a15) (HU14.out.aft a15) (Nat.le_refl _) hc15)
  have HF15 := Lib.hid ((HF14.out.aft7 a15).un (HU14.out.aft a15) hc15)
  have HU15 := Lib.hid hu15
  have HO15 := Lib.hid ho15
  clear hp hu15 ho15 hc15 a15 HA14 HF14 HU14
  go_wp2_with fail
  have a16 := (Aft.refl w15).alloc (.cells (bv bD7).toArray 5)
  refine (ublock_lit bD7 HU15.out (by decide) (by decide +kernel) (by decide) (by decide) (by decide) (by decide) (by decide) _ rfl 2 rfl _ rfl).mono ?_
  rintro e w16 hp
  obtain ⟨vo16, rfl, hu16, hc16⟩ := hp.no 6 qD.1 (by decide) tB7 qD.2.1 4096 qD.2.2
  have HA16 := Lib.hid (Un.below (HA15.out.trans a16) (HU15.out.aft a16) (Nat.le_refl _) hc16)
  have HF16 := Lib.hid ((HF15.out.aft7 a16).un (HU15.out.aft a16) hc16)
  have HO16 := Lib.hid ((HO15.out.aft a16).un7 (HU15.out.aft a16) hc16)
  have HU16 := Lib.hid hu16
  clear hp hu16 hc16 a16 HA15 HF15 HU15 HO15
  go_wp2_with fail
  have a17 := (Aft.refl w16).alloc (.cells #[.int .u8 130] 5)
  refine (ublock_bad (HU16.out.aft a17) _ _ _).mono ?_
  rintro e w17 ⟨rfl, b17⟩
  have HA17 := Lib.hid (HA16.out.trans (a17.trans b17))
  have HF17 := Lib.hid (HF16.out.aft7 (a17.trans b17))
  have HO17 := Lib.hid (HO16.out.aft (a17.trans b17))
  have HU17 := Lib.hid (HU16.out.aft (a17.trans b17))
  clear a17 b17 HA16 HF16 HU16 HO16
  go_wp2_with fail
  refine (sameW_any _ _ pC _ HO17.out.rbw (wb_first HF17.out)).mono ?_
  rintro e w18 ⟨rfl, a18⟩
  have HA18 := Lib.hid (HA17.out.trans a18)
  have HU18 := Lib.hid (HU17.out.aft a18)
  clear a18 HA17 HF17 HU17 HO17
  go_wp2_with fail
  refine (ubad_any HU18.out).mono ?_
  rintro e w19 ⟨rfl, rfl⟩
  go_wp2_with fail
  go_ret
  exact ⟨rfl, HA18.out⟩
theorem walkUnpackRuns (w : World) (hsh : w.ShapedOpen Tryd.prog) : Calls Tryd.prog 13 #[] w fun e w' => e = .returned (.bool true) ∧ Aft w w' :=
  unpackruns_any w (maxOk_of w hsh)
end Go.Proofs.YtmlnboibclfmcaaDoor
